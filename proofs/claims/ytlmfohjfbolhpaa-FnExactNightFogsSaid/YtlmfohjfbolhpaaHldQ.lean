/- Nights on all links. No condition. -/
import Derived.Test.YtlmfohjfbolhpaaHldP
namespace Go.Proofs.Ytlmfohjfbolhpaa
open Go.RowKit
set_option linter.unusedSimpArgs false
set_option linter.unusedVariables false
open Go.Shelf Go.Sort

def nfC (nT : Nat) (zT : List Int) (nL : Nat) (zL zF : List Int) (n : Nat) (a b : Int) : Bool := okNet nT zT nL zL && (okFg nL zF n && (inR a 0 9999 && inR b (a + 1) 10000))
def nfB (zF : List Int) (n : Nat) (a b : Int) (nL : Nat) : Bool := allB (fun j => decide ((nfT zF n a b (j + 1)).length ≤ 60)) nL
def nfQ (nT : Nat) (zT : List Int) (nL : Nat) (zL zF : List Int) (n : Nat) (a b : Int) : Bool := nfC nT zT nL zL zF n a b && nfB zF n a b nL
def nfL (nT : Nat) (zT : List Int) (nL : Nat) (zL zF : List Int) (n : Nat) (a b : Int) : List Int := if nfQ nT zT nL zL zF n a b = true then flat (nfT zF n a b nL) else []
theorem nfC_iff {nT nL n : Nat} {zT zL zF : List Int} {a b : Int} (h : nfC nT zT nL zL zF n a b = true) : okNet nT zT nL zL = true ∧ okFg nL zF n = true ∧ (0 ≤ a ∧ a ≤ 9999) ∧ a + 1 ≤ b ∧ b ≤ 10000 := by
  unfold nfC at h
  rw [Bool.and_eq_true, Bool.and_eq_true, Bool.and_eq_true, inR_iff, inR_iff] at h
  exact ⟨h.1, h.2.1, h.2.2.1, h.2.2.2⟩
theorem nfT_len {zF : List Int} {n : Nat} {a b : Int} {nL : Nat} (h : okFg nL zF n = true) {k : Nat} (hk : ∀ j, j < k → (nfT zF n a b (j + 1)).length ≤ 60) : ∀ i, i ≤ k → (nfT zF n a b i).length ≤ 60
  | 0, _ => by rw [nfT, tri_length]; exact (okFg_iff h).1
  | i + 1, hi => hk i (by omega)
theorem nfL_inv (nT : Nat) (zT : List Int) (nL : Nat) (zL zF : List Int) (n : Nat) (a b : Int) : (∀ x ∈ nfL nT zT nL zL zF n a b, (Lit.int .i64 x).wf = true) ∧ (nfL nT zT nL zL zF n a b).length ≤ 180 := by
  unfold nfL
  by_cases c : nfQ nT zT nL zL zF n a b = true
  · rw [if_pos c]
    unfold nfQ at c
    rw [Bool.and_eq_true] at c
    obtain ⟨h1, h2, h3, h4⟩ := nfC_iff c.1
    have hl := nfT_len h2 (a := a) (b := b) (k := nL) (fun j hj => by have := allB_get c.2 j hj; simpa using this)
    have hn := (okNet_iff h1).2.1
    obtain ⟨_, hw⟩ := nfT_inv h2 (a := a) (b := b) h3.1 (by omega) (by omega) nL (Nat.le_refl _) (fun i hi => hl i (by omega))
    exact ⟨flat_wf hw (by omega), by rw [flat_len]; have := hl nL (Nat.le_refl _); omega⟩
  · rw [if_neg c]
    simp


set_option maxRecDepth 100000 in
set_option maxHeartbeats 4000000 in
theorem sNightFogs_any (v : Value) (nT : Nat) (zT : List Int) (nL : Nat) (zL : List Int) (u : Value) (n : Nat) (z : List Int) (a b : Int) (w : World) (hN : NetRow w v nT zT nL zL) (hF : IntRow .i64 3 w u n z) :
    Calls Try.prog 16 #[v, u, .int .i64 a, .int .i64 b] w fun e w' => ∃ v', e = .returned (.tuple #[v', .bool (nfQ nT zT nL zL z n a b)]) ∧ w'.ownsRow w.heap.size 101 3 v' ((nfL nT zT nL zL z n a b).length / 3) ((nfL nT zT nL zL z n a b).map (Value.int .i64)) ∧ Ext w w' := by
  obtain ⟨i0, hi0, hz0, hz1, hz2⟩ := info_parts info_Fog
  have HN := hid hN
  have HF := hid hF
  obtain ⟨vT, vL, rfl, hT, hL⟩ := hN
  obtain ⟨_, _, _, aT, cT, rfl, _, _, _⟩ := hT
  obtain ⟨_, hmL, _, aL, cL, rfl, _, _, _⟩ := hL
  obtain ⟨hl, hm, hwf, ad, c, rfl, hnc, hcm, hcell⟩ := hF
  have HW := hid hwf
  clear hwf hcell
  have hn9 : n ≤ 9223372036854775807 := by unfold maxLen at hm; omega
  have e00 : Ext w (w.alloc (.cells #[.slice aT nT cT, .slice aL nL cL] 35)) := (Ext.refl w).alloc _
  have bp0 : (w.alloc (.cells #[.slice aT nT cT, .slice aL nL cL] 35)).cell? ⟨w.heap.size, 0, none⟩ = some (.slice aT nT cT) := by simp [go_sem]
  have bp1 : (w.alloc (.cells #[.slice aT nT cT, .slice aL nL cL] 35)).cell? ⟨w.heap.size, 1, none⟩ = some (.slice aL nL cL) := by simp [go_sem]
  have bgs : w.heap.size < (w.alloc (.cells #[.slice aT nT cT, .slice aL nL cL] 35)).heap.size := by simp
  obtain ⟨Q, hQ⟩ : ∃ q, q = nfQ nT zT nL zL z n a b := ⟨_, rfl⟩
  obtain ⟨L, hLe⟩ : ∃ l, l = nfL nT zT nL zL z n a b := ⟨_, rfl⟩
  rw [← hQ, ← hLe]
  have HLE := hid hLe
  have HQQ := hid hQ
  clear hQ hLe
  cases h0 : okNet nT zT nL zL with
  | false =>
    have H0 := hid h0
    have HC := hid (show nfC nT zT nL zL z n a b = false by unfold nfC; simp [H0.out])
    have HQ2 := hid (show Q = false by rw [HQQ.out]; unfold nfQ; rw [HC.out]; rfl)
    have HL2 := hid (show L = [] by rw [HLE.out]; unfold nfL nfQ; rw [HC.out]; rfl)
    clear h0
    go_enter Try.func16, Try.ntmps16
    go_wp2_with (fail)
    generalize hW0 : (w.alloc (.cells #[.slice aT nT cT, .slice aL nL cL] 35)) = w0
    rw [hW0] at e00 bp0 bp1 bgs
    clear hW0
    obtain ⟨bg, hbg⟩ : ∃ g, g = w.heap.size := ⟨_, rfl⟩
    rw [← hbg] at bp0 bp1 bgs ⊢
    have HBX := hid (fun (W : World) (hW : Ext w0 W) => show W.cell? ⟨bg, 0, none⟩ = some (.slice aT nT cT) ∧ W.cell? ⟨bg, 1, none⟩ = some (.slice aL nL cL) from ⟨by rw [(Ext.cells hW).1 _ _ bgs]; exact bp0, by rw [(Ext.cells hW).1 _ _ bgs]; exact bp1⟩)
    clear hbg bp0 bp1
    refine (neGood_any _ nT zT nL zL _ (HN.out.ext (by repeat (first | exact Ext.refl _ | assumption | refine Ext.alloc ?_ _ | refine Ext.drew ?_ | refine Ext.drewN ?_ _ | refine Ext.setCell ?_ (by first | exact Nat.le_refl _ | (simp; done) | (dsimp only; omega) | (simp only [World.size_alloc, World.size_setCell]; omega)) _ | refine Ext.trans ?_ (by assumption))))).mono ?_
    rw [H0.out]
    rintro e w1 ⟨rfl, hb1⟩
    obtain ⟨n1a, n1b⟩ := HBX.out w1 (by repeat (first | exact Ext.refl _ | assumption | refine Ext.alloc ?_ _ | refine Ext.drew ?_ | refine Ext.drewN ?_ _ | refine Ext.setCell ?_ (by first | exact Nat.le_refl _ | (simp; done) | (dsimp only; omega) | (simp only [World.size_alloc, World.size_setCell]; omega)) _ | refine Ext.trans ?_ (by assumption)))
    go_wp2_with (fail)
    go_ret2
    rw [HQ2.out, HL2.out]
    exact ⟨_, rfl, World.ownsRow_nil _ _ _ _, (by repeat (first | exact Ext.refl _ | assumption | refine Ext.alloc ?_ _ | refine Ext.drew ?_ | refine Ext.drewN ?_ _ | refine Ext.setCell ?_ (by first | exact Nat.le_refl _ | (simp; done) | (dsimp only; omega) | (simp only [World.size_alloc, World.size_setCell]; omega)) _ | refine Ext.trans ?_ (by assumption)))⟩
  | true =>
    have H0 := hid h0
    clear h0
    cases h1 : okFg nL z n with
    | false =>
      have H1 := hid h1
      have HC := hid (show nfC nT zT nL zL z n a b = false by unfold nfC; simp [H0.out, H1.out])
      have HQ2 := hid (show Q = false by rw [HQQ.out]; unfold nfQ; rw [HC.out]; rfl)
      have HL2 := hid (show L = [] by rw [HLE.out]; unfold nfL nfQ; rw [HC.out]; rfl)
      clear h1
      go_enter Try.func16, Try.ntmps16
      go_wp2_with (fail)
      generalize hW0 : (w.alloc (.cells #[.slice aT nT cT, .slice aL nL cL] 35)) = w0
      rw [hW0] at e00 bp0 bp1 bgs
      clear hW0
      obtain ⟨bg, hbg⟩ : ∃ g, g = w.heap.size := ⟨_, rfl⟩
      rw [← hbg] at bp0 bp1 bgs ⊢
      have HBX := hid (fun (W : World) (hW : Ext w0 W) => show W.cell? ⟨bg, 0, none⟩ = some (.slice aT nT cT) ∧ W.cell? ⟨bg, 1, none⟩ = some (.slice aL nL cL) from ⟨by rw [(Ext.cells hW).1 _ _ bgs]; exact bp0, by rw [(Ext.cells hW).1 _ _ bgs]; exact bp1⟩)
      clear hbg bp0 bp1
      refine (neGood_any _ nT zT nL zL _ (HN.out.ext (by repeat (first | exact Ext.refl _ | assumption | refine Ext.alloc ?_ _ | refine Ext.drew ?_ | refine Ext.drewN ?_ _ | refine Ext.setCell ?_ (by first | exact Nat.le_refl _ | (simp; done) | (dsimp only; omega) | (simp only [World.size_alloc, World.size_setCell]; omega)) _ | refine Ext.trans ?_ (by assumption))))).mono ?_
      rw [H0.out]
      rintro e w1 ⟨rfl, hb1⟩
      obtain ⟨n1a, n1b⟩ := HBX.out w1 (by repeat (first | exact Ext.refl _ | assumption | refine Ext.alloc ?_ _ | refine Ext.drew ?_ | refine Ext.drewN ?_ _ | refine Ext.setCell ?_ (by first | exact Nat.le_refl _ | (simp; done) | (dsimp only; omega) | (simp only [World.size_alloc, World.size_setCell]; omega)) _ | refine Ext.trans ?_ (by assumption)))
      go_wp2_with (fail)
      refine (fgGood_any _ nT zT nL zL _ n z _ (HN.out.ext (by repeat (first | exact Ext.refl _ | assumption | refine Ext.alloc ?_ _ | refine Ext.drew ?_ | refine Ext.drewN ?_ _ | refine Ext.setCell ?_ (by first | exact Nat.le_refl _ | (simp; done) | (dsimp only; omega) | (simp only [World.size_alloc, World.size_setCell]; omega)) _ | refine Ext.trans ?_ (by assumption)))) (HF.out.ext (by repeat (first | exact Ext.refl _ | assumption | refine Ext.alloc ?_ _ | refine Ext.drew ?_ | refine Ext.drewN ?_ _ | refine Ext.setCell ?_ (by first | exact Nat.le_refl _ | (simp; done) | (dsimp only; omega) | (simp only [World.size_alloc, World.size_setCell]; omega)) _ | refine Ext.trans ?_ (by assumption))))).mono ?_
      rw [H1.out]
      rintro e w2 ⟨rfl, hb2⟩
      obtain ⟨n2a, n2b⟩ := HBX.out w2 (by repeat (first | exact Ext.refl _ | assumption | refine Ext.alloc ?_ _ | refine Ext.drew ?_ | refine Ext.drewN ?_ _ | refine Ext.setCell ?_ (by first | exact Nat.le_refl _ | (simp; done) | (dsimp only; omega) | (simp only [World.size_alloc, World.size_setCell]; omega)) _ | refine Ext.trans ?_ (by assumption)))
      clear n1a n1b
      go_wp2_with (fail)
      go_ret2
      rw [HQ2.out, HL2.out]
      exact ⟨_, rfl, World.ownsRow_nil _ _ _ _, (by repeat (first | exact Ext.refl _ | assumption | refine Ext.alloc ?_ _ | refine Ext.drew ?_ | refine Ext.drewN ?_ _ | refine Ext.setCell ?_ (by first | exact Nat.le_refl _ | (simp; done) | (dsimp only; omega) | (simp only [World.size_alloc, World.size_setCell]; omega)) _ | refine Ext.trans ?_ (by assumption)))⟩
    | true =>
      have H1 := hid h1
      clear h1
      cases h2 : inR a 0 9999 with
      | false =>
        have H2 := hid h2
        have HC := hid (show nfC nT zT nL zL z n a b = false by unfold nfC; simp [H0.out, H1.out, H2.out])
        have HQ2 := hid (show Q = false by rw [HQQ.out]; unfold nfQ; rw [HC.out]; rfl)
        have HL2 := hid (show L = [] by rw [HLE.out]; unfold nfL nfQ; rw [HC.out]; rfl)
        clear h2
        go_enter Try.func16, Try.ntmps16
        go_wp2_with (fail)
        generalize hW0 : (w.alloc (.cells #[.slice aT nT cT, .slice aL nL cL] 35)) = w0
        rw [hW0] at e00 bp0 bp1 bgs
        clear hW0
        obtain ⟨bg, hbg⟩ : ∃ g, g = w.heap.size := ⟨_, rfl⟩
        rw [← hbg] at bp0 bp1 bgs ⊢
        have HBX := hid (fun (W : World) (hW : Ext w0 W) => show W.cell? ⟨bg, 0, none⟩ = some (.slice aT nT cT) ∧ W.cell? ⟨bg, 1, none⟩ = some (.slice aL nL cL) from ⟨by rw [(Ext.cells hW).1 _ _ bgs]; exact bp0, by rw [(Ext.cells hW).1 _ _ bgs]; exact bp1⟩)
        clear hbg bp0 bp1
        refine (neGood_any _ nT zT nL zL _ (HN.out.ext (by repeat (first | exact Ext.refl _ | assumption | refine Ext.alloc ?_ _ | refine Ext.drew ?_ | refine Ext.drewN ?_ _ | refine Ext.setCell ?_ (by first | exact Nat.le_refl _ | (simp; done) | (dsimp only; omega) | (simp only [World.size_alloc, World.size_setCell]; omega)) _ | refine Ext.trans ?_ (by assumption))))).mono ?_
        rw [H0.out]
        rintro e w1 ⟨rfl, hb1⟩
        obtain ⟨n1a, n1b⟩ := HBX.out w1 (by repeat (first | exact Ext.refl _ | assumption | refine Ext.alloc ?_ _ | refine Ext.drew ?_ | refine Ext.drewN ?_ _ | refine Ext.setCell ?_ (by first | exact Nat.le_refl _ | (simp; done) | (dsimp only; omega) | (simp only [World.size_alloc, World.size_setCell]; omega)) _ | refine Ext.trans ?_ (by assumption)))
        go_wp2_with (fail)
        refine (fgGood_any _ nT zT nL zL _ n z _ (HN.out.ext (by repeat (first | exact Ext.refl _ | assumption | refine Ext.alloc ?_ _ | refine Ext.drew ?_ | refine Ext.drewN ?_ _ | refine Ext.setCell ?_ (by first | exact Nat.le_refl _ | (simp; done) | (dsimp only; omega) | (simp only [World.size_alloc, World.size_setCell]; omega)) _ | refine Ext.trans ?_ (by assumption)))) (HF.out.ext (by repeat (first | exact Ext.refl _ | assumption | refine Ext.alloc ?_ _ | refine Ext.drew ?_ | refine Ext.drewN ?_ _ | refine Ext.setCell ?_ (by first | exact Nat.le_refl _ | (simp; done) | (dsimp only; omega) | (simp only [World.size_alloc, World.size_setCell]; omega)) _ | refine Ext.trans ?_ (by assumption))))).mono ?_
        rw [H1.out]
        rintro e w2 ⟨rfl, hb2⟩
        obtain ⟨n2a, n2b⟩ := HBX.out w2 (by repeat (first | exact Ext.refl _ | assumption | refine Ext.alloc ?_ _ | refine Ext.drew ?_ | refine Ext.drewN ?_ _ | refine Ext.setCell ?_ (by first | exact Nat.le_refl _ | (simp; done) | (dsimp only; omega) | (simp only [World.size_alloc, World.size_setCell]; omega)) _ | refine Ext.trans ?_ (by assumption)))
        clear n1a n1b
        go_wp2_with (fail)
        refine (l1In_any _ _ _ _).mono ?_
        rw [H2.out]
        rintro e w' ⟨rfl, rfl⟩
        go_wp2_with (fail)
        go_ret2
        rw [HQ2.out, HL2.out]
        exact ⟨_, rfl, World.ownsRow_nil _ _ _ _, (by repeat (first | exact Ext.refl _ | assumption | refine Ext.alloc ?_ _ | refine Ext.drew ?_ | refine Ext.drewN ?_ _ | refine Ext.setCell ?_ (by first | exact Nat.le_refl _ | (simp; done) | (dsimp only; omega) | (simp only [World.size_alloc, World.size_setCell]; omega)) _ | refine Ext.trans ?_ (by assumption)))⟩
      | true =>
        have H2 := hid h2
        clear h2
        cases h3 : inR b (a + 1) 10000 with
        | false =>
          have H3 := hid h3
          have HC := hid (show nfC nT zT nL zL z n a b = false by unfold nfC; simp [H0.out, H1.out, H2.out, H3.out])
          have HQ2 := hid (show Q = false by rw [HQQ.out]; unfold nfQ; rw [HC.out]; rfl)
          have HL2 := hid (show L = [] by rw [HLE.out]; unfold nfL nfQ; rw [HC.out]; rfl)
          clear h3
          have hwa : IntKind.i64.wrap (a + 1) = a + 1 := by have := inR_iff.1 H2.out; exact IntWalk.i64_in _ (by omega)
          go_enter Try.func16, Try.ntmps16
          go_wp2_with (fail)
          generalize hW0 : (w.alloc (.cells #[.slice aT nT cT, .slice aL nL cL] 35)) = w0
          rw [hW0] at e00 bp0 bp1 bgs
          clear hW0
          obtain ⟨bg, hbg⟩ : ∃ g, g = w.heap.size := ⟨_, rfl⟩
          rw [← hbg] at bp0 bp1 bgs ⊢
          have HBX := hid (fun (W : World) (hW : Ext w0 W) => show W.cell? ⟨bg, 0, none⟩ = some (.slice aT nT cT) ∧ W.cell? ⟨bg, 1, none⟩ = some (.slice aL nL cL) from ⟨by rw [(Ext.cells hW).1 _ _ bgs]; exact bp0, by rw [(Ext.cells hW).1 _ _ bgs]; exact bp1⟩)
          clear hbg bp0 bp1
          refine (neGood_any _ nT zT nL zL _ (HN.out.ext (by repeat (first | exact Ext.refl _ | assumption | refine Ext.alloc ?_ _ | refine Ext.drew ?_ | refine Ext.drewN ?_ _ | refine Ext.setCell ?_ (by first | exact Nat.le_refl _ | (simp; done) | (dsimp only; omega) | (simp only [World.size_alloc, World.size_setCell]; omega)) _ | refine Ext.trans ?_ (by assumption))))).mono ?_
          rw [H0.out]
          rintro e w1 ⟨rfl, hb1⟩
          obtain ⟨n1a, n1b⟩ := HBX.out w1 (by repeat (first | exact Ext.refl _ | assumption | refine Ext.alloc ?_ _ | refine Ext.drew ?_ | refine Ext.drewN ?_ _ | refine Ext.setCell ?_ (by first | exact Nat.le_refl _ | (simp; done) | (dsimp only; omega) | (simp only [World.size_alloc, World.size_setCell]; omega)) _ | refine Ext.trans ?_ (by assumption)))
          go_wp2_with (fail)
          refine (fgGood_any _ nT zT nL zL _ n z _ (HN.out.ext (by repeat (first | exact Ext.refl _ | assumption | refine Ext.alloc ?_ _ | refine Ext.drew ?_ | refine Ext.drewN ?_ _ | refine Ext.setCell ?_ (by first | exact Nat.le_refl _ | (simp; done) | (dsimp only; omega) | (simp only [World.size_alloc, World.size_setCell]; omega)) _ | refine Ext.trans ?_ (by assumption)))) (HF.out.ext (by repeat (first | exact Ext.refl _ | assumption | refine Ext.alloc ?_ _ | refine Ext.drew ?_ | refine Ext.drewN ?_ _ | refine Ext.setCell ?_ (by first | exact Nat.le_refl _ | (simp; done) | (dsimp only; omega) | (simp only [World.size_alloc, World.size_setCell]; omega)) _ | refine Ext.trans ?_ (by assumption))))).mono ?_
          rw [H1.out]
          rintro e w2 ⟨rfl, hb2⟩
          obtain ⟨n2a, n2b⟩ := HBX.out w2 (by repeat (first | exact Ext.refl _ | assumption | refine Ext.alloc ?_ _ | refine Ext.drew ?_ | refine Ext.drewN ?_ _ | refine Ext.setCell ?_ (by first | exact Nat.le_refl _ | (simp; done) | (dsimp only; omega) | (simp only [World.size_alloc, World.size_setCell]; omega)) _ | refine Ext.trans ?_ (by assumption)))
          clear n1a n1b
          go_wp2_with (fail)
          refine (l1In_any _ _ _ _).mono ?_
          rw [H2.out]
          rintro e w' ⟨rfl, rfl⟩
          go_wp2_with (fail)
          refine (l1In_any _ _ _ _).mono ?_
          rw [H3.out]
          rintro e w' ⟨rfl, rfl⟩
          go_wp2_with (fail)
          go_ret2
          rw [HQ2.out, HL2.out]
          exact ⟨_, rfl, World.ownsRow_nil _ _ _ _, (by repeat (first | exact Ext.refl _ | assumption | refine Ext.alloc ?_ _ | refine Ext.drew ?_ | refine Ext.drewN ?_ _ | refine Ext.setCell ?_ (by first | exact Nat.le_refl _ | (simp; done) | (dsimp only; omega) | (simp only [World.size_alloc, World.size_setCell]; omega)) _ | refine Ext.trans ?_ (by assumption)))⟩
        | true =>
          have H3 := hid h3
          clear h3
          have HC := hid (show nfC nT zT nL zL z n a b = true by unfold nfC; simp [H0.out, H1.out, H2.out, H3.out])
          obtain ⟨ho1, ho2, ⟨ha1, ha2⟩, hab1, hab2⟩ := nfC_iff HC.out
          have hn60 := (okFg_iff ho2).1
          have hnL := (okNet_iff ho1).2.1
          have hwa : IntKind.i64.wrap (a + 1) = a + 1 := IntWalk.i64_in _ (by omega)
          clear ho1 ho2
          go_enter Try.func16, Try.ntmps16
          go_wp2_with (fail)
          generalize hW0 : (w.alloc (.cells #[.slice aT nT cT, .slice aL nL cL] 35)) = w0
          rw [hW0] at e00 bp0 bp1 bgs
          clear hW0
          obtain ⟨bg, hbg⟩ : ∃ g, g = w.heap.size := ⟨_, rfl⟩
          rw [← hbg] at bp0 bp1 bgs ⊢
          have HBX := hid (fun (W : World) (hW : Ext w0 W) => show W.cell? ⟨bg, 0, none⟩ = some (.slice aT nT cT) ∧ W.cell? ⟨bg, 1, none⟩ = some (.slice aL nL cL) from ⟨by rw [(Ext.cells hW).1 _ _ bgs]; exact bp0, by rw [(Ext.cells hW).1 _ _ bgs]; exact bp1⟩)
          clear hbg bp0 bp1
          refine (neGood_any _ nT zT nL zL _ (HN.out.ext (by repeat (first | exact Ext.refl _ | assumption | refine Ext.alloc ?_ _ | refine Ext.drew ?_ | refine Ext.drewN ?_ _ | refine Ext.setCell ?_ (by first | exact Nat.le_refl _ | (simp; done) | (dsimp only; omega) | (simp only [World.size_alloc, World.size_setCell]; omega)) _ | refine Ext.trans ?_ (by assumption))))).mono ?_
          rw [H0.out]
          rintro e w1 ⟨rfl, hb1⟩
          obtain ⟨n1a, n1b⟩ := HBX.out w1 (by repeat (first | exact Ext.refl _ | assumption | refine Ext.alloc ?_ _ | refine Ext.drew ?_ | refine Ext.drewN ?_ _ | refine Ext.setCell ?_ (by first | exact Nat.le_refl _ | (simp; done) | (dsimp only; omega) | (simp only [World.size_alloc, World.size_setCell]; omega)) _ | refine Ext.trans ?_ (by assumption)))
          go_wp2_with (fail)
          refine (fgGood_any _ nT zT nL zL _ n z _ (HN.out.ext (by repeat (first | exact Ext.refl _ | assumption | refine Ext.alloc ?_ _ | refine Ext.drew ?_ | refine Ext.drewN ?_ _ | refine Ext.setCell ?_ (by first | exact Nat.le_refl _ | (simp; done) | (dsimp only; omega) | (simp only [World.size_alloc, World.size_setCell]; omega)) _ | refine Ext.trans ?_ (by assumption)))) (HF.out.ext (by repeat (first | exact Ext.refl _ | assumption | refine Ext.alloc ?_ _ | refine Ext.drew ?_ | refine Ext.drewN ?_ _ | refine Ext.setCell ?_ (by first | exact Nat.le_refl _ | (simp; done) | (dsimp only; omega) | (simp only [World.size_alloc, World.size_setCell]; omega)) _ | refine Ext.trans ?_ (by assumption))))).mono ?_
          rw [H1.out]
          rintro e w2 ⟨rfl, hb2⟩
          obtain ⟨n2a, n2b⟩ := HBX.out w2 (by repeat (first | exact Ext.refl _ | assumption | refine Ext.alloc ?_ _ | refine Ext.drew ?_ | refine Ext.drewN ?_ _ | refine Ext.setCell ?_ (by first | exact Nat.le_refl _ | (simp; done) | (dsimp only; omega) | (simp only [World.size_alloc, World.size_setCell]; omega)) _ | refine Ext.trans ?_ (by assumption)))
          clear n1a n1b
          go_wp2_with (fail)
          refine (l1In_any _ _ _ _).mono ?_
          rw [H2.out]
          rintro e w' ⟨rfl, rfl⟩
          go_wp2_with (fail)
          refine (l1In_any _ _ _ _).mono ?_
          rw [H3.out]
          rintro e w' ⟨rfl, rfl⟩
          have hE02 : Ext w0 w2 := hb1.trans hb2
          have hE2 : Ext w w2 := e00.trans hE02
          go_wp2_with (first | (at_builtin; go_loud (refine wpList_src3 rfl (.tmp 33) (.tmp 34) 29 rfl w2.heap.size 101 i0 _ Try.underlying29 hi0 hz0 hz1 hz2 rfl _ 0 [] rfl (row_empty3 _ _) _ n z rfl (HF.out.ext (by repeat (first | exact Ext.refl _ | assumption | refine Ext.alloc ?_ _ | refine Ext.drew ?_ | refine Ext.drewN ?_ _ | refine Ext.setCell ?_ (by first | exact Nat.le_refl _ | (simp; done) | (dsimp only; omega) | (simp only [World.size_alloc, World.size_setCell]; omega)) _ | refine Ext.trans ?_ (by assumption)))) (by omega) (by simp) ?_; intro v3 w3 hr3' hg3; rw [Nat.zero_add, List.nil_append] at hr3'; have hg3' : (w2.alloc (.cells #[] 101)).grownBy w3 (some w2.heap.size) := hg3; have hE3 : Ext w w3 := Ext.of_grownAt ((by repeat (first | exact Ext.refl _ | assumption | refine Ext.alloc ?_ _ | refine Ext.drew ?_ | refine Ext.drewN ?_ _ | refine Ext.setCell ?_ (by first | exact Nat.le_refl _ | (simp; done) | (dsimp only; omega) | (simp only [World.size_alloc, World.size_setCell]; omega)) _ | refine Ext.trans ?_ (by assumption))) : Ext w (w2.alloc (.cells #[] 101))) hg3' (fun q hq => (by have := hE2.size; simp at hq; omega)); have hE03 : Ext w0 w3 := Ext.of_grownAt ((by repeat (first | exact Ext.refl _ | assumption | refine Ext.alloc ?_ _ | refine Ext.drew ?_ | refine Ext.drewN ?_ _ | refine Ext.setCell ?_ (by first | exact Nat.le_refl _ | (simp; done) | (dsimp only; omega) | (simp only [World.size_alloc, World.size_setCell]; omega)) _ | refine Ext.trans ?_ (by assumption))) : Ext w0 (w2.alloc (.cells #[] 101))) hg3' (fun q hq => (by have := hE02.size; simp at hq; omega)); have hr3 := row_mono hr3' (show w.heap.size ≤ w2.heap.size from hE2.size); clear hg3 hg3'; obtain ⟨n3a, n3b⟩ := HBX.out w3 hE03)))
          have hrz : w3.ownsRow w.heap.size 101 3 v3 (nfT z n a b 0).length ((flat (nfT z n a b 0)).map (Value.int .i64)) := by
            rw [nfT, tri_length, flat_tri hl]
            exact hr3
          have N3 := HBX.out w3 hE03
          go_wp2_with (fail)
          go_loopw [10, 39] (fun q10 i wr => ∃ k : Nat, k ≤ nL ∧ i = .int .i64 (k : Int) ∧ (∀ j, j < k → (nfT z n a b (j + 1)).length ≤ 60) ∧ wr.ownsRow w.heap.size 101 3 q10 (nfT z n a b k).length ((flat (nfT z n a b k)).map (Value.int .i64)) ∧ Ext w3 wr)
            (fun _ i _ => nL - (intOf i).toNat)
          case atStart => exact ⟨0, Nat.zero_le _, rfl, fun j hj => absurd hj (by omega), hrz, Ext.refl _⟩
          case round =>
            obtain ⟨k, hk, rfl, hle, hrow, hE⟩ := hrel
            clear hrz hr3 N3
            have HLE2 := hid hle
            clear hle
            have hlk := nfT_len H1.out HLE2.out k (Nat.le_refl _)
            have hk0 : (0 : Int) ≤ (k : Int) := Int.natCast_nonneg _
            obtain ⟨n3a, n3b⟩ := HBX.out wr (hE03.trans hE)
            have hE0 : Ext w wr := hE3.trans hE
            by_cases hlt : k < nL
            · have tl : decide ((k : Int) < (nL : Int)) = true := by simpa using hlt
              obtain ⟨hps, hww⟩ := nfT_inv H1.out (a := a) (b := b) ha1 (by omega) hab2 k (by omega) (fun i hi => nfT_len H1.out HLE2.out i (by omega))
              have HOK := hid (show okFg nL (flat (nfT z n a b k)) (nfT z n a b k).length = true by rw [okFg_flat hps hww]; exact decide_eq_true hlk)
              have HIR := hid (row_ints hrow (by unfold maxLen; omega) (flat_wf hww (by omega)))
              have HX : Hid (wfT nL ((k : Int), a, b)) := hid ⟨⟨hk0, by simp only []; omega⟩, ha1, (by simp only []; omega), hab2⟩
              have HNX := hid (show addR (flat (nfT z n a b k)) (nfT z n a b k).length ((k : Int), a, b) = nfT z n a b (k + 1) from rfl)
              obtain ⟨aq, cq, rfl, _, _, _⟩ := row_shape hrow
              clear hps hww hrow
              go_wp2_with (fail)
              refine (fgAdd_any _ _ _ _ _ _ _ nL (HIR.out.ext (by repeat (first | exact Ext.refl _ | assumption | refine Ext.alloc ?_ _ | refine Ext.drew ?_ | refine Ext.drewN ?_ _ | refine Ext.setCell ?_ (by first | exact Nat.le_refl _ | (simp; done) | (dsimp only; omega) | (simp only [World.size_alloc, World.size_setCell]; omega)) _ | refine Ext.trans ?_ (by assumption)))) HOK HX (by omega)).mono ?_
              rintro e w5 ⟨v5, rfl, hr5, hb5⟩
              rw [HNX.out] at hr5
              have hr6 := row_mono hr5 (show w.heap.size ≤ wr.heap.size from hE0.size)
              obtain ⟨NL, hNL⟩ : ∃ x, x = (nfT z n a b (k + 1)).length := ⟨_, rfl⟩
              obtain ⟨a5, c5, rfl, _, _, _⟩ := row_shape hr6
              rw [← hNL] at hr6 ⊢
              have HR6 := hid hr6
              clear hr5 hr6
              by_cases h60 : 60 < NL
              · have t60 : decide ((60 : Int) < (NL : Int)) = true := by simp; omega
                rw [hNL] at h60
                have HB := hid (show nfB z n a b nL = false by unfold nfB; exact allB_f hlt (by simp; omega))
                have HQ2 := hid (show Q = false by rw [HQQ.out]; unfold nfQ; rw [HC.out, HB.out]; rfl)
                have HL2 := hid (show L = [] by rw [HLE.out]; unfold nfL nfQ; rw [HC.out, HB.out]; rfl)
                clear hNL h60
                go_wp2_with (fail)
                go_ret2
                rw [HQ2.out, HL2.out]
                exact ⟨_, rfl, World.ownsRow_nil _ _ _ _, hE0.trans hb5⟩
              · have t60 : decide ((60 : Int) < (NL : Int)) = false := by simp; omega
                have HNL := hid hNL
                clear hNL
                go_wp2_with (fail)
                go_roundw
                case rel =>
                  refine ⟨k + 1, by omega, by go_num, fun j hj => ?_, ?_, hE.trans hb5⟩
                  · by_cases e : j = k
                    · subst e
                      rw [← HNL.out]
                      omega
                    · exact HLE2.out j (by omega)
                  · have := HR6.out
                    rw [HNL.out] at this ⊢
                    exact this
                case measure => simp [intOf]; omega
            · obtain rfl : k = nL := by omega
              have tl : decide ((k : Int) < (k : Int)) = false := by simp
              have HB := hid (show nfB z n a b k = true from allB_t (fun j hj => by simpa using HLE2.out j hj))
              have HQ2 := hid (show Q = true by rw [HQQ.out]; unfold nfQ; rw [HC.out, HB.out]; rfl)
              have HL2 := hid (show L = flat (nfT z n a b k) by rw [HLE.out]; unfold nfL nfQ; rw [HC.out, HB.out]; rfl)
              go_wp2_with (fail)
              go_ret2
              rw [HQ2.out, HL2.out, show (flat (nfT z n a b k)).length / 3 = (nfT z n a b k).length by rw [flat_len]; omega]
              exact ⟨_, rfl, hrow, hE0⟩

set_option maxRecDepth 100000 in
set_option maxHeartbeats 4000000 in
theorem iNightFogs_any (v : Value) (nT : Nat) (zT : List Int) (nL : Nat) (zL : List Int) (u : Value) (n : Nat) (z : List Int) (a b : Int) (w : World) (hN : NetRow w v nT zT nL zL) (hF : IntRow .i64 3 w u n z) :
    Calls Try.prog 19 #[v, u, .int .i64 a, .int .i64 b] w fun e w' => ∃ v', e = .returned (.tuple #[v', .bool (nfQ nT zT nL zL z n a b)]) ∧ w'.ownsRow w.heap.size 101 3 v' ((nfL nT zT nL zL z n a b).length / 3) ((nfL nT zT nL zL z n a b).map (Value.int .i64)) ∧ Ext w w' := by
  obtain ⟨i0, hi0, hz0, hz1, hz2⟩ := info_parts info_Fog
  have HN := hid hN
  have HF := hid hF
  obtain ⟨vT, vL, rfl, hT, hL⟩ := hN
  obtain ⟨_, _, _, aT, cT, rfl, _, _, _⟩ := hT
  obtain ⟨_, hmL, _, aL, cL, rfl, _, _, _⟩ := hL
  obtain ⟨hl, hm, hwf, ad, c, rfl, hnc, hcm, hcell⟩ := hF
  have HW := hid hwf
  clear hwf hcell
  have hn9 : n ≤ 9223372036854775807 := by unfold maxLen at hm; omega
  have e00 : Ext w (w.alloc (.cells #[.slice aT nT cT, .slice aL nL cL] 35)) := (Ext.refl w).alloc _
  have bp0 : (w.alloc (.cells #[.slice aT nT cT, .slice aL nL cL] 35)).cell? ⟨w.heap.size, 0, none⟩ = some (.slice aT nT cT) := by simp [go_sem]
  have bp1 : (w.alloc (.cells #[.slice aT nT cT, .slice aL nL cL] 35)).cell? ⟨w.heap.size, 1, none⟩ = some (.slice aL nL cL) := by simp [go_sem]
  have bgs : w.heap.size < (w.alloc (.cells #[.slice aT nT cT, .slice aL nL cL] 35)).heap.size := by simp
  obtain ⟨Q, hQ⟩ : ∃ q, q = nfQ nT zT nL zL z n a b := ⟨_, rfl⟩
  obtain ⟨L, hLe⟩ : ∃ l, l = nfL nT zT nL zL z n a b := ⟨_, rfl⟩
  rw [← hQ, ← hLe]
  have HLE := hid hLe
  have HQQ := hid hQ
  clear hQ hLe
  cases h0 : okNet nT zT nL zL with
  | false =>
    have H0 := hid h0
    have HC := hid (show nfC nT zT nL zL z n a b = false by unfold nfC; simp [H0.out])
    have HQ2 := hid (show Q = false by rw [HQQ.out]; unfold nfQ; rw [HC.out]; rfl)
    have HL2 := hid (show L = [] by rw [HLE.out]; unfold nfL nfQ; rw [HC.out]; rfl)
    clear h0
    go_enter Try.func19, Try.ntmps19
    go_wp2_with (fail)
    generalize hW0 : (w.alloc (.cells #[.slice aT nT cT, .slice aL nL cL] 35)) = w0
    rw [hW0] at e00 bp0 bp1 bgs
    clear hW0
    obtain ⟨bg, hbg⟩ : ∃ g, g = w.heap.size := ⟨_, rfl⟩
    rw [← hbg] at bp0 bp1 bgs ⊢
    have HBX := hid (fun (W : World) (hW : Ext w0 W) => show W.cell? ⟨bg, 0, none⟩ = some (.slice aT nT cT) ∧ W.cell? ⟨bg, 1, none⟩ = some (.slice aL nL cL) from ⟨by rw [(Ext.cells hW).1 _ _ bgs]; exact bp0, by rw [(Ext.cells hW).1 _ _ bgs]; exact bp1⟩)
    clear hbg bp0 bp1
    refine (iIsNet_any _ nT zT nL zL _ (HN.out.ext (by repeat (first | exact Ext.refl _ | assumption | refine Ext.alloc ?_ _ | refine Ext.drew ?_ | refine Ext.drewN ?_ _ | refine Ext.setCell ?_ (by first | exact Nat.le_refl _ | (simp; done) | (dsimp only; omega) | (simp only [World.size_alloc, World.size_setCell]; omega)) _ | refine Ext.trans ?_ (by assumption))))).mono ?_
    rw [H0.out]
    rintro e w1 ⟨rfl, hb1⟩
    obtain ⟨n1a, n1b⟩ := HBX.out w1 (by repeat (first | exact Ext.refl _ | assumption | refine Ext.alloc ?_ _ | refine Ext.drew ?_ | refine Ext.drewN ?_ _ | refine Ext.setCell ?_ (by first | exact Nat.le_refl _ | (simp; done) | (dsimp only; omega) | (simp only [World.size_alloc, World.size_setCell]; omega)) _ | refine Ext.trans ?_ (by assumption)))
    go_wp2_with (fail)
    go_ret2
    rw [HQ2.out, HL2.out]
    exact ⟨_, rfl, World.ownsRow_nil _ _ _ _, (by repeat (first | exact Ext.refl _ | assumption | refine Ext.alloc ?_ _ | refine Ext.drew ?_ | refine Ext.drewN ?_ _ | refine Ext.setCell ?_ (by first | exact Nat.le_refl _ | (simp; done) | (dsimp only; omega) | (simp only [World.size_alloc, World.size_setCell]; omega)) _ | refine Ext.trans ?_ (by assumption)))⟩
  | true =>
    have H0 := hid h0
    clear h0
    cases h1 : okFg nL z n with
    | false =>
      have H1 := hid h1
      have HC := hid (show nfC nT zT nL zL z n a b = false by unfold nfC; simp [H0.out, H1.out])
      have HQ2 := hid (show Q = false by rw [HQQ.out]; unfold nfQ; rw [HC.out]; rfl)
      have HL2 := hid (show L = [] by rw [HLE.out]; unfold nfL nfQ; rw [HC.out]; rfl)
      clear h1
      go_enter Try.func19, Try.ntmps19
      go_wp2_with (fail)
      generalize hW0 : (w.alloc (.cells #[.slice aT nT cT, .slice aL nL cL] 35)) = w0
      rw [hW0] at e00 bp0 bp1 bgs
      clear hW0
      obtain ⟨bg, hbg⟩ : ∃ g, g = w.heap.size := ⟨_, rfl⟩
      rw [← hbg] at bp0 bp1 bgs ⊢
      have HBX := hid (fun (W : World) (hW : Ext w0 W) => show W.cell? ⟨bg, 0, none⟩ = some (.slice aT nT cT) ∧ W.cell? ⟨bg, 1, none⟩ = some (.slice aL nL cL) from ⟨by rw [(Ext.cells hW).1 _ _ bgs]; exact bp0, by rw [(Ext.cells hW).1 _ _ bgs]; exact bp1⟩)
      clear hbg bp0 bp1
      refine (iIsNet_any _ nT zT nL zL _ (HN.out.ext (by repeat (first | exact Ext.refl _ | assumption | refine Ext.alloc ?_ _ | refine Ext.drew ?_ | refine Ext.drewN ?_ _ | refine Ext.setCell ?_ (by first | exact Nat.le_refl _ | (simp; done) | (dsimp only; omega) | (simp only [World.size_alloc, World.size_setCell]; omega)) _ | refine Ext.trans ?_ (by assumption))))).mono ?_
      rw [H0.out]
      rintro e w1 ⟨rfl, hb1⟩
      obtain ⟨n1a, n1b⟩ := HBX.out w1 (by repeat (first | exact Ext.refl _ | assumption | refine Ext.alloc ?_ _ | refine Ext.drew ?_ | refine Ext.drewN ?_ _ | refine Ext.setCell ?_ (by first | exact Nat.le_refl _ | (simp; done) | (dsimp only; omega) | (simp only [World.size_alloc, World.size_setCell]; omega)) _ | refine Ext.trans ?_ (by assumption)))
      go_wp2_with (fail)
      refine (areFogs_any _ nT zT nL zL _ n z _ (HN.out.ext (by repeat (first | exact Ext.refl _ | assumption | refine Ext.alloc ?_ _ | refine Ext.drew ?_ | refine Ext.drewN ?_ _ | refine Ext.setCell ?_ (by first | exact Nat.le_refl _ | (simp; done) | (dsimp only; omega) | (simp only [World.size_alloc, World.size_setCell]; omega)) _ | refine Ext.trans ?_ (by assumption)))) (HF.out.ext (by repeat (first | exact Ext.refl _ | assumption | refine Ext.alloc ?_ _ | refine Ext.drew ?_ | refine Ext.drewN ?_ _ | refine Ext.setCell ?_ (by first | exact Nat.le_refl _ | (simp; done) | (dsimp only; omega) | (simp only [World.size_alloc, World.size_setCell]; omega)) _ | refine Ext.trans ?_ (by assumption))))).mono ?_
      rw [H1.out]
      rintro e w2 ⟨rfl, hb2⟩
      obtain ⟨n2a, n2b⟩ := HBX.out w2 (by repeat (first | exact Ext.refl _ | assumption | refine Ext.alloc ?_ _ | refine Ext.drew ?_ | refine Ext.drewN ?_ _ | refine Ext.setCell ?_ (by first | exact Nat.le_refl _ | (simp; done) | (dsimp only; omega) | (simp only [World.size_alloc, World.size_setCell]; omega)) _ | refine Ext.trans ?_ (by assumption)))
      clear n1a n1b
      go_wp2_with (fail)
      go_ret2
      rw [HQ2.out, HL2.out]
      exact ⟨_, rfl, World.ownsRow_nil _ _ _ _, (by repeat (first | exact Ext.refl _ | assumption | refine Ext.alloc ?_ _ | refine Ext.drew ?_ | refine Ext.drewN ?_ _ | refine Ext.setCell ?_ (by first | exact Nat.le_refl _ | (simp; done) | (dsimp only; omega) | (simp only [World.size_alloc, World.size_setCell]; omega)) _ | refine Ext.trans ?_ (by assumption)))⟩
    | true =>
      have H1 := hid h1
      clear h1
      cases h2 : inR a 0 9999 with
      | false =>
        have H2 := hid h2
        have HC := hid (show nfC nT zT nL zL z n a b = false by unfold nfC; simp [H0.out, H1.out, H2.out])
        have HQ2 := hid (show Q = false by rw [HQQ.out]; unfold nfQ; rw [HC.out]; rfl)
        have HL2 := hid (show L = [] by rw [HLE.out]; unfold nfL nfQ; rw [HC.out]; rfl)
        clear h2
        go_enter Try.func19, Try.ntmps19
        go_wp2_with (fail)
        generalize hW0 : (w.alloc (.cells #[.slice aT nT cT, .slice aL nL cL] 35)) = w0
        rw [hW0] at e00 bp0 bp1 bgs
        clear hW0
        obtain ⟨bg, hbg⟩ : ∃ g, g = w.heap.size := ⟨_, rfl⟩
        rw [← hbg] at bp0 bp1 bgs ⊢
        have HBX := hid (fun (W : World) (hW : Ext w0 W) => show W.cell? ⟨bg, 0, none⟩ = some (.slice aT nT cT) ∧ W.cell? ⟨bg, 1, none⟩ = some (.slice aL nL cL) from ⟨by rw [(Ext.cells hW).1 _ _ bgs]; exact bp0, by rw [(Ext.cells hW).1 _ _ bgs]; exact bp1⟩)
        clear hbg bp0 bp1
        refine (iIsNet_any _ nT zT nL zL _ (HN.out.ext (by repeat (first | exact Ext.refl _ | assumption | refine Ext.alloc ?_ _ | refine Ext.drew ?_ | refine Ext.drewN ?_ _ | refine Ext.setCell ?_ (by first | exact Nat.le_refl _ | (simp; done) | (dsimp only; omega) | (simp only [World.size_alloc, World.size_setCell]; omega)) _ | refine Ext.trans ?_ (by assumption))))).mono ?_
        rw [H0.out]
        rintro e w1 ⟨rfl, hb1⟩
        obtain ⟨n1a, n1b⟩ := HBX.out w1 (by repeat (first | exact Ext.refl _ | assumption | refine Ext.alloc ?_ _ | refine Ext.drew ?_ | refine Ext.drewN ?_ _ | refine Ext.setCell ?_ (by first | exact Nat.le_refl _ | (simp; done) | (dsimp only; omega) | (simp only [World.size_alloc, World.size_setCell]; omega)) _ | refine Ext.trans ?_ (by assumption)))
        go_wp2_with (fail)
        refine (areFogs_any _ nT zT nL zL _ n z _ (HN.out.ext (by repeat (first | exact Ext.refl _ | assumption | refine Ext.alloc ?_ _ | refine Ext.drew ?_ | refine Ext.drewN ?_ _ | refine Ext.setCell ?_ (by first | exact Nat.le_refl _ | (simp; done) | (dsimp only; omega) | (simp only [World.size_alloc, World.size_setCell]; omega)) _ | refine Ext.trans ?_ (by assumption)))) (HF.out.ext (by repeat (first | exact Ext.refl _ | assumption | refine Ext.alloc ?_ _ | refine Ext.drew ?_ | refine Ext.drewN ?_ _ | refine Ext.setCell ?_ (by first | exact Nat.le_refl _ | (simp; done) | (dsimp only; omega) | (simp only [World.size_alloc, World.size_setCell]; omega)) _ | refine Ext.trans ?_ (by assumption))))).mono ?_
        rw [H1.out]
        rintro e w2 ⟨rfl, hb2⟩
        obtain ⟨n2a, n2b⟩ := HBX.out w2 (by repeat (first | exact Ext.refl _ | assumption | refine Ext.alloc ?_ _ | refine Ext.drew ?_ | refine Ext.drewN ?_ _ | refine Ext.setCell ?_ (by first | exact Nat.le_refl _ | (simp; done) | (dsimp only; omega) | (simp only [World.size_alloc, World.size_setCell]; omega)) _ | refine Ext.trans ?_ (by assumption)))
        clear n1a n1b
        go_wp2_with (fail)
        refine (within_any _ _ _ _).mono ?_
        rw [H2.out]
        rintro e w' ⟨rfl, rfl⟩
        go_wp2_with (fail)
        go_ret2
        rw [HQ2.out, HL2.out]
        exact ⟨_, rfl, World.ownsRow_nil _ _ _ _, (by repeat (first | exact Ext.refl _ | assumption | refine Ext.alloc ?_ _ | refine Ext.drew ?_ | refine Ext.drewN ?_ _ | refine Ext.setCell ?_ (by first | exact Nat.le_refl _ | (simp; done) | (dsimp only; omega) | (simp only [World.size_alloc, World.size_setCell]; omega)) _ | refine Ext.trans ?_ (by assumption)))⟩
      | true =>
        have H2 := hid h2
        clear h2
        cases h3 : inR b (a + 1) 10000 with
        | false =>
          have H3 := hid h3
          have HC := hid (show nfC nT zT nL zL z n a b = false by unfold nfC; simp [H0.out, H1.out, H2.out, H3.out])
          have HQ2 := hid (show Q = false by rw [HQQ.out]; unfold nfQ; rw [HC.out]; rfl)
          have HL2 := hid (show L = [] by rw [HLE.out]; unfold nfL nfQ; rw [HC.out]; rfl)
          clear h3
          have hwa : IntKind.i64.wrap (a + 1) = a + 1 := by have := inR_iff.1 H2.out; exact IntWalk.i64_in _ (by omega)
          go_enter Try.func19, Try.ntmps19
          go_wp2_with (fail)
          generalize hW0 : (w.alloc (.cells #[.slice aT nT cT, .slice aL nL cL] 35)) = w0
          rw [hW0] at e00 bp0 bp1 bgs
          clear hW0
          obtain ⟨bg, hbg⟩ : ∃ g, g = w.heap.size := ⟨_, rfl⟩
          rw [← hbg] at bp0 bp1 bgs ⊢
          have HBX := hid (fun (W : World) (hW : Ext w0 W) => show W.cell? ⟨bg, 0, none⟩ = some (.slice aT nT cT) ∧ W.cell? ⟨bg, 1, none⟩ = some (.slice aL nL cL) from ⟨by rw [(Ext.cells hW).1 _ _ bgs]; exact bp0, by rw [(Ext.cells hW).1 _ _ bgs]; exact bp1⟩)
          clear hbg bp0 bp1
          refine (iIsNet_any _ nT zT nL zL _ (HN.out.ext (by repeat (first | exact Ext.refl _ | assumption | refine Ext.alloc ?_ _ | refine Ext.drew ?_ | refine Ext.drewN ?_ _ | refine Ext.setCell ?_ (by first | exact Nat.le_refl _ | (simp; done) | (dsimp only; omega) | (simp only [World.size_alloc, World.size_setCell]; omega)) _ | refine Ext.trans ?_ (by assumption))))).mono ?_
          rw [H0.out]
          rintro e w1 ⟨rfl, hb1⟩
          obtain ⟨n1a, n1b⟩ := HBX.out w1 (by repeat (first | exact Ext.refl _ | assumption | refine Ext.alloc ?_ _ | refine Ext.drew ?_ | refine Ext.drewN ?_ _ | refine Ext.setCell ?_ (by first | exact Nat.le_refl _ | (simp; done) | (dsimp only; omega) | (simp only [World.size_alloc, World.size_setCell]; omega)) _ | refine Ext.trans ?_ (by assumption)))
          go_wp2_with (fail)
          refine (areFogs_any _ nT zT nL zL _ n z _ (HN.out.ext (by repeat (first | exact Ext.refl _ | assumption | refine Ext.alloc ?_ _ | refine Ext.drew ?_ | refine Ext.drewN ?_ _ | refine Ext.setCell ?_ (by first | exact Nat.le_refl _ | (simp; done) | (dsimp only; omega) | (simp only [World.size_alloc, World.size_setCell]; omega)) _ | refine Ext.trans ?_ (by assumption)))) (HF.out.ext (by repeat (first | exact Ext.refl _ | assumption | refine Ext.alloc ?_ _ | refine Ext.drew ?_ | refine Ext.drewN ?_ _ | refine Ext.setCell ?_ (by first | exact Nat.le_refl _ | (simp; done) | (dsimp only; omega) | (simp only [World.size_alloc, World.size_setCell]; omega)) _ | refine Ext.trans ?_ (by assumption))))).mono ?_
          rw [H1.out]
          rintro e w2 ⟨rfl, hb2⟩
          obtain ⟨n2a, n2b⟩ := HBX.out w2 (by repeat (first | exact Ext.refl _ | assumption | refine Ext.alloc ?_ _ | refine Ext.drew ?_ | refine Ext.drewN ?_ _ | refine Ext.setCell ?_ (by first | exact Nat.le_refl _ | (simp; done) | (dsimp only; omega) | (simp only [World.size_alloc, World.size_setCell]; omega)) _ | refine Ext.trans ?_ (by assumption)))
          clear n1a n1b
          go_wp2_with (fail)
          refine (within_any _ _ _ _).mono ?_
          rw [H2.out]
          rintro e w' ⟨rfl, rfl⟩
          go_wp2_with (fail)
          refine (within_any _ _ _ _).mono ?_
          rw [H3.out]
          rintro e w' ⟨rfl, rfl⟩
          go_wp2_with (fail)
          go_ret2
          rw [HQ2.out, HL2.out]
          exact ⟨_, rfl, World.ownsRow_nil _ _ _ _, (by repeat (first | exact Ext.refl _ | assumption | refine Ext.alloc ?_ _ | refine Ext.drew ?_ | refine Ext.drewN ?_ _ | refine Ext.setCell ?_ (by first | exact Nat.le_refl _ | (simp; done) | (dsimp only; omega) | (simp only [World.size_alloc, World.size_setCell]; omega)) _ | refine Ext.trans ?_ (by assumption)))⟩
        | true =>
          have H3 := hid h3
          clear h3
          have HC := hid (show nfC nT zT nL zL z n a b = true by unfold nfC; simp [H0.out, H1.out, H2.out, H3.out])
          obtain ⟨ho1, ho2, ⟨ha1, ha2⟩, hab1, hab2⟩ := nfC_iff HC.out
          have hn60 := (okFg_iff ho2).1
          have hnL := (okNet_iff ho1).2.1
          have hwa : IntKind.i64.wrap (a + 1) = a + 1 := IntWalk.i64_in _ (by omega)
          clear ho1 ho2
          go_enter Try.func19, Try.ntmps19
          go_wp2_with (fail)
          generalize hW0 : (w.alloc (.cells #[.slice aT nT cT, .slice aL nL cL] 35)) = w0
          rw [hW0] at e00 bp0 bp1 bgs
          clear hW0
          obtain ⟨bg, hbg⟩ : ∃ g, g = w.heap.size := ⟨_, rfl⟩
          rw [← hbg] at bp0 bp1 bgs ⊢
          have HBX := hid (fun (W : World) (hW : Ext w0 W) => show W.cell? ⟨bg, 0, none⟩ = some (.slice aT nT cT) ∧ W.cell? ⟨bg, 1, none⟩ = some (.slice aL nL cL) from ⟨by rw [(Ext.cells hW).1 _ _ bgs]; exact bp0, by rw [(Ext.cells hW).1 _ _ bgs]; exact bp1⟩)
          clear hbg bp0 bp1
          refine (iIsNet_any _ nT zT nL zL _ (HN.out.ext (by repeat (first | exact Ext.refl _ | assumption | refine Ext.alloc ?_ _ | refine Ext.drew ?_ | refine Ext.drewN ?_ _ | refine Ext.setCell ?_ (by first | exact Nat.le_refl _ | (simp; done) | (dsimp only; omega) | (simp only [World.size_alloc, World.size_setCell]; omega)) _ | refine Ext.trans ?_ (by assumption))))).mono ?_
          rw [H0.out]
          rintro e w1 ⟨rfl, hb1⟩
          obtain ⟨n1a, n1b⟩ := HBX.out w1 (by repeat (first | exact Ext.refl _ | assumption | refine Ext.alloc ?_ _ | refine Ext.drew ?_ | refine Ext.drewN ?_ _ | refine Ext.setCell ?_ (by first | exact Nat.le_refl _ | (simp; done) | (dsimp only; omega) | (simp only [World.size_alloc, World.size_setCell]; omega)) _ | refine Ext.trans ?_ (by assumption)))
          go_wp2_with (fail)
          refine (areFogs_any _ nT zT nL zL _ n z _ (HN.out.ext (by repeat (first | exact Ext.refl _ | assumption | refine Ext.alloc ?_ _ | refine Ext.drew ?_ | refine Ext.drewN ?_ _ | refine Ext.setCell ?_ (by first | exact Nat.le_refl _ | (simp; done) | (dsimp only; omega) | (simp only [World.size_alloc, World.size_setCell]; omega)) _ | refine Ext.trans ?_ (by assumption)))) (HF.out.ext (by repeat (first | exact Ext.refl _ | assumption | refine Ext.alloc ?_ _ | refine Ext.drew ?_ | refine Ext.drewN ?_ _ | refine Ext.setCell ?_ (by first | exact Nat.le_refl _ | (simp; done) | (dsimp only; omega) | (simp only [World.size_alloc, World.size_setCell]; omega)) _ | refine Ext.trans ?_ (by assumption))))).mono ?_
          rw [H1.out]
          rintro e w2 ⟨rfl, hb2⟩
          obtain ⟨n2a, n2b⟩ := HBX.out w2 (by repeat (first | exact Ext.refl _ | assumption | refine Ext.alloc ?_ _ | refine Ext.drew ?_ | refine Ext.drewN ?_ _ | refine Ext.setCell ?_ (by first | exact Nat.le_refl _ | (simp; done) | (dsimp only; omega) | (simp only [World.size_alloc, World.size_setCell]; omega)) _ | refine Ext.trans ?_ (by assumption)))
          clear n1a n1b
          go_wp2_with (fail)
          refine (within_any _ _ _ _).mono ?_
          rw [H2.out]
          rintro e w' ⟨rfl, rfl⟩
          go_wp2_with (fail)
          refine (within_any _ _ _ _).mono ?_
          rw [H3.out]
          rintro e w' ⟨rfl, rfl⟩
          go_wp2_with (fail)
          refine (cloneFogs_any _ n z _ (HF.out.ext (by repeat (first | exact Ext.refl _ | assumption | refine Ext.alloc ?_ _ | refine Ext.drew ?_ | refine Ext.drewN ?_ _ | refine Ext.setCell ?_ (by first | exact Nat.le_refl _ | (simp; done) | (dsimp only; omega) | (simp only [World.size_alloc, World.size_setCell]; omega)) _ | refine Ext.trans ?_ (by assumption)))) (by omega)).mono ?_
          rintro e w3 ⟨v3, rfl, hr3', hb3⟩
          have hE02 : Ext w0 w2 := hb1.trans hb2
          have hE03 : Ext w0 w3 := hE02.trans hb3
          have hE2 : Ext w w2 := e00.trans hE02
          have hr3 := row_mono hr3' (show w.heap.size ≤ w2.heap.size from hE2.size)
          have hE3 : Ext w w3 := e00.trans hE03
          obtain ⟨n3a, n3b⟩ := HBX.out w3 hE03
          have hrz : w3.ownsRow w.heap.size 101 3 v3 (nfT z n a b 0).length ((flat (nfT z n a b 0)).map (Value.int .i64)) := by
            rw [nfT, tri_length, flat_tri hl]
            exact hr3
          have N3 := HBX.out w3 hE03
          go_wp2_with (fail)
          go_loopw [10, 40] (fun q10 i wr => ∃ k : Nat, k ≤ nL ∧ i = .int .i64 (k : Int) ∧ (∀ j, j < k → (nfT z n a b (j + 1)).length ≤ 60) ∧ wr.ownsRow w.heap.size 101 3 q10 (nfT z n a b k).length ((flat (nfT z n a b k)).map (Value.int .i64)) ∧ Ext w3 wr)
            (fun _ i _ => nL - (intOf i).toNat)
          case atStart => exact ⟨0, Nat.zero_le _, rfl, fun j hj => absurd hj (by omega), hrz, Ext.refl _⟩
          case round =>
            obtain ⟨k, hk, rfl, hle, hrow, hE⟩ := hrel
            clear hrz hr3 N3
            have HLE2 := hid hle
            clear hle
            have hlk := nfT_len H1.out HLE2.out k (Nat.le_refl _)
            have hk0 : (0 : Int) ≤ (k : Int) := Int.natCast_nonneg _
            obtain ⟨n3a, n3b⟩ := HBX.out wr (hE03.trans hE)
            have hE0 : Ext w wr := hE3.trans hE
            by_cases hlt : k < nL
            · have tl : decide ((k : Int) < (nL : Int)) = true := by simpa using hlt
              obtain ⟨hps, hww⟩ := nfT_inv H1.out (a := a) (b := b) ha1 (by omega) hab2 k (by omega) (fun i hi => nfT_len H1.out HLE2.out i (by omega))
              have HOK := hid (show okFg nL (flat (nfT z n a b k)) (nfT z n a b k).length = true by rw [okFg_flat hps hww]; exact decide_eq_true hlk)
              have HIR := hid (row_ints hrow (by unfold maxLen; omega) (flat_wf hww (by omega)))
              have HX : Hid (wfT nL ((k : Int), a, b)) := hid ⟨⟨hk0, by simp only []; omega⟩, ha1, (by simp only []; omega), hab2⟩
              have HNX := hid (show addR (flat (nfT z n a b k)) (nfT z n a b k).length ((k : Int), a, b) = nfT z n a b (k + 1) from rfl)
              obtain ⟨aq, cq, rfl, _, _, _⟩ := row_shape hrow
              clear hps hww hrow
              go_wp2_with (fail)
              refine (iAddFog_any _ nT zT nL zL _ _ _ _ _ _ _ (HN.out.ext hE0) H0 (HIR.out.ext (by repeat (first | exact Ext.refl _ | assumption | refine Ext.alloc ?_ _ | refine Ext.drew ?_ | refine Ext.drewN ?_ _ | refine Ext.setCell ?_ (by first | exact Nat.le_refl _ | (simp; done) | (dsimp only; omega) | (simp only [World.size_alloc, World.size_setCell]; omega)) _ | refine Ext.trans ?_ (by assumption)))) HOK HX).mono ?_
              rintro e w5 ⟨v5, rfl, hr5, hb5⟩
              rw [HNX.out] at hr5 ⊢
              obtain ⟨NL, hNL⟩ : ∃ x, x = (nfT z n a b (k + 1)).length := ⟨_, rfl⟩
              rw [← hNL] at hr5 ⊢
              by_cases h60 : NL ≤ 60
              · have hr6 := row_mono (hr5 h60) (show w.heap.size ≤ wr.heap.size from hE0.size)
                have HR6 := hid hr6
                have HNL := hid hNL
                rw [decide_eq_true h60]
                clear hNL hr5 hr6
                go_wp2_with (fail)
                go_roundw
                case rel =>
                  refine ⟨k + 1, by omega, by go_num, fun j hj => ?_, ?_, hE.trans hb5⟩
                  · by_cases e : j = k
                    · subst e
                      rw [← HNL.out]
                      exact h60
                    · exact HLE2.out j (by omega)
                  · rw [← HNL.out]
                    exact HR6.out
                case measure => simp [intOf]; omega
              · rw [decide_eq_false h60]
                rw [hNL] at h60
                have HB := hid (show nfB z n a b nL = false by unfold nfB; exact allB_f hlt (by simp; omega))
                have HQ2 := hid (show Q = false by rw [HQQ.out]; unfold nfQ; rw [HC.out, HB.out]; rfl)
                have HL2 := hid (show L = [] by rw [HLE.out]; unfold nfL nfQ; rw [HC.out, HB.out]; rfl)
                clear hNL h60 hr5
                go_wp2_with (fail)
                go_ret2
                rw [HQ2.out, HL2.out]
                exact ⟨_, rfl, World.ownsRow_nil _ _ _ _, hE0.trans hb5⟩
            · obtain rfl : k = nL := by omega
              have tl : decide ((k : Int) < (k : Int)) = false := by simp
              have HB := hid (show nfB z n a b k = true from allB_t (fun j hj => by simpa using HLE2.out j hj))
              have HQ2 := hid (show Q = true by rw [HQQ.out]; unfold nfQ; rw [HC.out, HB.out]; rfl)
              have HL2 := hid (show L = flat (nfT z n a b k) by rw [HLE.out]; unfold nfL nfQ; rw [HC.out, HB.out]; rfl)
              go_wp2_with (fail)
              go_ret2
              rw [HQ2.out, HL2.out, show (flat (nfT z n a b k)).length / 3 = (nfT z n a b k).length by rw [flat_len]; omega]
              exact ⟨_, rfl, hrow, hE0⟩

set_option maxRecDepth 100000 in
set_option maxHeartbeats 4000000 in
theorem walkFnExactNightFogs (v0 : Value) (nT0 : Nat) (zT0 : List Int) (nL0 : Nat) (zL0 : List Int) (v1 : Value) (n1 : Nat) (z1 : List Int) (a2 : Int) (a3 : Int) (w : World) (r0 : NetRow w v0 nT0 zT0 nL0 zL0) (r1 : IntRow .i64 3 w v1 n1 z1) (_ : (Lit.int .i64 a2).wf = true) (_ : (Lit.int .i64 a3).wf = true) :
    Calls Try.prog 3 #[v0, v1, .int .i64 a2, .int .i64 a3] w fun e w' => e = .returned (.bool true) ∧ Ext w w' := by
  have HWT0 := hid r0.wf.1
  have HWL0 := hid r0.wf.2
  obtain ⟨vT0, vL0, rfl, _, _⟩ := id r0
  have HW1 := hid r1.2.2.1
  have hsz0 := fun (W : World) (hW : Ext w W) => szNet_any _ nT0 zT0 nL0 zL0 W 1048576 (r0.ext hW) (by omega) (by omega)
  by_cases hn0 : nT0 + nL0 ≤ (1048576 : Int)
  · rw [if_pos hn0] at hsz0
    obtain ⟨q0, hq0⟩ : ∃ q : Int, q = 1048576 - nT0 - nL0 := ⟨_, rfl⟩
    rw [← hq0] at hsz0
    have hqa0 : 0 ≤ q0 := by omega
    have hqb0 : q0 ≤ 1048576 := by omega
    have hsz1 := fun (W : World) (hW : Ext w W) => szFogS_any v1 n1 z1 W q0 (r1.ext hW) (by omega) (by omega)
    by_cases hn1 : (n1 : Int) ≤ q0
    · rw [if_pos hn1] at hsz1
      obtain ⟨q1, hq1⟩ : ∃ q : Int, q = q0 - n1 := ⟨_, rfl⟩
      rw [← hq1] at hsz1
      have hqa1 : 0 ≤ q1 := by omega
      have hqb1 : q1 ≤ 1048576 := by omega
      have hnT0 : nT0 ≤ 1048576 := by omega
      have hnL0 : nL0 ≤ 1048576 := by omega
      have hm1 : n1 ≤ 1048576 := by omega
      have HQ0 := hid hq0
      clear hq0
      have HQ1 := hid hq1
      clear hq1
      obtain ⟨L, hL⟩ : ∃ L, L = nfL nT0 zT0 nL0 zL0 z1 n1 a2 a3 := ⟨_, rfl⟩
      have HLW : Hid (∀ x ∈ L, (Lit.int .i64 x).wf = true) := hid (by rw [hL]; exact (nfL_inv _ _ _ _ _ _ _ _).1)
      have hLl : L.length / 3 ≤ 16777216 := by rw [hL]; have := (nfL_inv nT0 zT0 nL0 zL0 z1 n1 a2 a3).2; omega
      have HL := hid hL
      clear hL
      go_enter Try.func3, Try.ntmps3
      go_wp2_with (fail)
      have e00 : Ext w (w.alloc (.cells #[vT0, vL0] 25)) := (Ext.refl w).alloc _
      have bp0 : (w.alloc (.cells #[vT0, vL0] 25)).cell? ⟨w.heap.size, 0, none⟩ = some vT0 := by simp [go_sem]
      have bp1 : (w.alloc (.cells #[vT0, vL0] 25)).cell? ⟨w.heap.size, 1, none⟩ = some vL0 := by simp [go_sem]
      have bgs : w.heap.size < (w.alloc (.cells #[vT0, vL0] 25)).heap.size := by simp
      generalize (w.alloc (.cells #[vT0, vL0] 25)) = w0 at *
      obtain ⟨bg, hbg⟩ : ∃ g, g = w.heap.size := ⟨_, rfl⟩
      rw [← hbg] at bp0 bp1 bgs ⊢
      have HBX := hid (fun (W : World) (hW : Ext w0 W) => show W.cell? ⟨bg, 0, none⟩ = some vT0 ∧ W.cell? ⟨bg, 1, none⟩ = some vL0 from ⟨by rw [(Ext.cells hW).1 _ _ bgs]; exact bp0, by rw [(Ext.cells hW).1 _ _ bgs]; exact bp1⟩)
      clear hbg
      go_wp2_with (fail)
      refine (hsz0 _ (by repeat (first | exact Ext.refl _ | assumption | refine Ext.alloc ?_ _ | refine Ext.drew ?_ | refine Ext.drewN ?_ _ | refine Ext.setCell ?_ (by first | exact Nat.le_refl _ | (simp; done) | (dsimp only; omega) | (simp only [World.size_alloc, World.size_setCell]; omega)) _ | refine Ext.trans ?_ (by assumption)))).mono ?_
      rintro e wz ⟨rfl, hbz⟩
      clear bp0 bp1
      obtain ⟨bxa, bxb⟩ := HBX.out wz (by repeat (first | exact Ext.refl _ | assumption | refine Ext.alloc ?_ _ | refine Ext.drew ?_ | refine Ext.drewN ?_ _ | refine Ext.setCell ?_ (by first | exact Nat.le_refl _ | (simp; done) | (dsimp only; omega) | (simp only [World.size_alloc, World.size_setCell]; omega)) _ | refine Ext.trans ?_ (by assumption)))
      clear hsz0
      go_wp2_with (fail)
      refine (hsz1 _ (by repeat (first | exact Ext.refl _ | assumption | refine Ext.alloc ?_ _ | refine Ext.drew ?_ | refine Ext.drewN ?_ _ | refine Ext.setCell ?_ (by first | exact Nat.le_refl _ | (simp; done) | (dsimp only; omega) | (simp only [World.size_alloc, World.size_setCell]; omega)) _ | refine Ext.trans ?_ (by assumption)))).mono ?_
      rintro e w' ⟨rfl, rfl⟩
      clear hsz1
      go_wp2_with (fail)
      refine (toNet_any _ nT0 nL0 zT0 zL0 _ (r0.ext (by repeat (first | exact Ext.refl _ | assumption | refine Ext.alloc ?_ _ | refine Ext.drew ?_ | refine Ext.drewN ?_ _ | refine Ext.setCell ?_ (by first | exact Nat.le_refl _ | (simp; done) | (dsimp only; omega) | (simp only [World.size_alloc, World.size_setCell]; omega)) _ | refine Ext.trans ?_ (by assumption)))) hnT0 hnL0).mono ?_
      rintro e w1 ⟨x1, rfl, hr1, hb1⟩
      obtain ⟨bxa1, bxb1⟩ := HBX.out w1 (by repeat (first | exact Ext.refl _ | assumption | refine Ext.alloc ?_ _ | refine Ext.drew ?_ | refine Ext.drewN ?_ _ | refine Ext.setCell ?_ (by first | exact Nat.le_refl _ | (simp; done) | (dsimp only; omega) | (simp only [World.size_alloc, World.size_setCell]; omega)) _ | refine Ext.trans ?_ (by assumption)))
      clear bxa bxb
      go_wp2_with (fail)
      refine (toFogS_any _ n1 z1 _ (r1.ext (by repeat (first | exact Ext.refl _ | assumption | refine Ext.alloc ?_ _ | refine Ext.drew ?_ | refine Ext.drewN ?_ _ | refine Ext.setCell ?_ (by first | exact Nat.le_refl _ | (simp; done) | (dsimp only; omega) | (simp only [World.size_alloc, World.size_setCell]; omega)) _ | refine Ext.trans ?_ (by assumption)))) hm1).mono ?_
      rintro e w2 ⟨g2, rfl, hr2, hb2⟩
      obtain ⟨bxa2, bxb2⟩ := HBX.out w2 (by repeat (first | exact Ext.refl _ | assumption | refine Ext.alloc ?_ _ | refine Ext.drew ?_ | refine Ext.drewN ?_ _ | refine Ext.setCell ?_ (by first | exact Nat.le_refl _ | (simp; done) | (dsimp only; omega) | (simp only [World.size_alloc, World.size_setCell]; omega)) _ | refine Ext.trans ?_ (by assumption)))
      clear bxa1 bxb1
      go_wp2_with (fail)
      refine (sNightFogs_any _ nT0 zT0 nL0 zL0 _ n1 z1 a2 a3 _ ((OwnNet.ext hr1 (by repeat (first | exact Ext.refl _ | assumption | refine Ext.alloc ?_ _ | refine Ext.drew ?_ | refine Ext.drewN ?_ _ | refine Ext.setCell ?_ (by first | exact Nat.le_refl _ | (simp; done) | (dsimp only; omega) | (simp only [World.size_alloc, World.size_setCell]; omega)) _ | refine Ext.trans ?_ (by assumption)))).net (by unfold maxLen; omega) (by unfold maxLen; omega) HWT0.out HWL0.out) (row_ints (row_ext hr2 (by repeat (first | exact Ext.refl _ | assumption | refine Ext.alloc ?_ _ | refine Ext.drew ?_ | refine Ext.drewN ?_ _ | refine Ext.setCell ?_ (by first | exact Nat.le_refl _ | (simp; done) | (dsimp only; omega) | (simp only [World.size_alloc, World.size_setCell]; omega)) _ | refine Ext.trans ?_ (by assumption)))) (by unfold maxLen; omega) HW1.out)).mono ?_
      rintro e w3 ⟨vw, rfl, hrw, hb3⟩
      obtain ⟨bxa3, bxb3⟩ := HBX.out w3 (by repeat (first | exact Ext.refl _ | assumption | refine Ext.alloc ?_ _ | refine Ext.drew ?_ | refine Ext.drewN ?_ _ | refine Ext.setCell ?_ (by first | exact Nat.le_refl _ | (simp; done) | (dsimp only; omega) | (simp only [World.size_alloc, World.size_setCell]; omega)) _ | refine Ext.trans ?_ (by assumption)))
      clear bxa2 bxb2
      rw [← HL.out] at hrw
      go_wp2_with (fail)
      refine (toNet_any _ nT0 nL0 zT0 zL0 _ (r0.ext (by repeat (first | exact Ext.refl _ | assumption | refine Ext.alloc ?_ _ | refine Ext.drew ?_ | refine Ext.drewN ?_ _ | refine Ext.setCell ?_ (by first | exact Nat.le_refl _ | (simp; done) | (dsimp only; omega) | (simp only [World.size_alloc, World.size_setCell]; omega)) _ | refine Ext.trans ?_ (by assumption)))) hnT0 hnL0).mono ?_
      rintro e w4 ⟨x4, rfl, hr4, hb4⟩
      obtain ⟨bxa4, bxb4⟩ := HBX.out w4 (by repeat (first | exact Ext.refl _ | assumption | refine Ext.alloc ?_ _ | refine Ext.drew ?_ | refine Ext.drewN ?_ _ | refine Ext.setCell ?_ (by first | exact Nat.le_refl _ | (simp; done) | (dsimp only; omega) | (simp only [World.size_alloc, World.size_setCell]; omega)) _ | refine Ext.trans ?_ (by assumption)))
      clear bxa3 bxb3
      obtain ⟨gT, gL, hxe, hglt, hgT, hgL⟩ := id hr4
      subst hxe
      go_wp2_with (fail)
      have e5y : Ext w4 (w4.alloc (.cells #[.slice (some ⟨gT, 0, none⟩) nT0 nT0, .slice (some ⟨gL, 0, none⟩) nL0 nL0] 35)) := (Ext.refl _).alloc _
      have bq0 : (w4.alloc (.cells #[.slice (some ⟨gT, 0, none⟩) nT0 nT0, .slice (some ⟨gL, 0, none⟩) nL0 nL0] 35)).cell? ⟨w4.heap.size, 0, none⟩ = some (.slice (some ⟨gT, 0, none⟩) nT0 nT0) := by simp [go_sem]
      have bq1 : (w4.alloc (.cells #[.slice (some ⟨gT, 0, none⟩) nT0 nT0, .slice (some ⟨gL, 0, none⟩) nL0 nL0] 35)).cell? ⟨w4.heap.size, 1, none⟩ = some (.slice (some ⟨gL, 0, none⟩) nL0 nL0) := by simp [go_sem]
      have byn : w4.heap.size < (w4.alloc (.cells #[.slice (some ⟨gT, 0, none⟩) nT0 nT0, .slice (some ⟨gL, 0, none⟩) nL0 nL0] 35)).heap.size := by simp
      obtain ⟨wy, hwy⟩ : ∃ x, x = (w4.alloc (.cells #[.slice (some ⟨gT, 0, none⟩) nT0 nT0, .slice (some ⟨gL, 0, none⟩) nL0 nL0] 35)) := ⟨_, rfl⟩
      rw [← hwy] at e5y bq0 bq1 byn ⊢
      obtain ⟨by5, hby⟩ : ∃ g, g = w4.heap.size := ⟨_, rfl⟩
      rw [← hby] at bq0 bq1 byn ⊢
      have HBY := hid (fun (W : World) (hW : Ext wy W) => show W.cell? ⟨by5, 0, none⟩ = some (.slice (some ⟨gT, 0, none⟩) nT0 nT0) ∧ W.cell? ⟨by5, 1, none⟩ = some (.slice (some ⟨gL, 0, none⟩) nL0 nL0) from ⟨by rw [(Ext.cells hW).1 _ _ byn]; exact bq0, by rw [(Ext.cells hW).1 _ _ byn]; exact bq1⟩)
      have HBYE := hid hby
      clear hwy hby bq0 bq1
      obtain ⟨bya, byb⟩ := HBY.out wy (Ext.refl _)
      obtain ⟨bxa, bxb⟩ := HBX.out wy (by repeat (first | exact Ext.refl _ | assumption | refine Ext.alloc ?_ _ | refine Ext.drew ?_ | refine Ext.drewN ?_ _ | refine Ext.setCell ?_ (by first | exact Nat.le_refl _ | (simp; done) | (dsimp only; omega) | (simp only [World.size_alloc, World.size_setCell]; omega)) _ | refine Ext.trans ?_ (by assumption)))
      clear bxa4 bxb4
      go_wp2_with (fail)
      refine (toFogS_any _ n1 z1 _ (r1.ext (by repeat (first | exact Ext.refl _ | assumption | refine Ext.alloc ?_ _ | refine Ext.drew ?_ | refine Ext.drewN ?_ _ | refine Ext.setCell ?_ (by first | exact Nat.le_refl _ | (simp; done) | (dsimp only; omega) | (simp only [World.size_alloc, World.size_setCell]; omega)) _ | refine Ext.trans ?_ (by assumption)))) hm1).mono ?_
      rintro e w5 ⟨g5, rfl, hr5, hb5⟩
      obtain ⟨bxa5, bxb5⟩ := HBX.out w5 (by repeat (first | exact Ext.refl _ | assumption | refine Ext.alloc ?_ _ | refine Ext.drew ?_ | refine Ext.drewN ?_ _ | refine Ext.setCell ?_ (by first | exact Nat.le_refl _ | (simp; done) | (dsimp only; omega) | (simp only [World.size_alloc, World.size_setCell]; omega)) _ | refine Ext.trans ?_ (by assumption)))
      obtain ⟨bya5, byb5⟩ := HBY.out w5 (by repeat (first | exact Ext.refl _ | assumption | refine Ext.alloc ?_ _ | refine Ext.drew ?_ | refine Ext.drewN ?_ _ | refine Ext.setCell ?_ (by first | exact Nat.le_refl _ | (simp; done) | (dsimp only; omega) | (simp only [World.size_alloc, World.size_setCell]; omega)) _ | refine Ext.trans ?_ (by assumption)))
      clear bxa bxb bya byb
      go_wp2_with (fail)
      refine (iNightFogs_any _ nT0 zT0 nL0 zL0 _ n1 z1 a2 a3 _ ((OwnNet.ext hr4 (by repeat (first | exact Ext.refl _ | assumption | refine Ext.alloc ?_ _ | refine Ext.drew ?_ | refine Ext.drewN ?_ _ | refine Ext.setCell ?_ (by first | exact Nat.le_refl _ | (simp; done) | (dsimp only; omega) | (simp only [World.size_alloc, World.size_setCell]; omega)) _ | refine Ext.trans ?_ (by assumption)))).net (by unfold maxLen; omega) (by unfold maxLen; omega) HWT0.out HWL0.out) (row_ints (row_ext hr5 (by repeat (first | exact Ext.refl _ | assumption | refine Ext.alloc ?_ _ | refine Ext.drew ?_ | refine Ext.drewN ?_ _ | refine Ext.setCell ?_ (by first | exact Nat.le_refl _ | (simp; done) | (dsimp only; omega) | (simp only [World.size_alloc, World.size_setCell]; omega)) _ | refine Ext.trans ?_ (by assumption)))) (by unfold maxLen; omega) HW1.out)).mono ?_
      rintro e w6 ⟨vg, rfl, hrg, hb6⟩
      obtain ⟨bxa6, bxb6⟩ := HBX.out w6 (by repeat (first | exact Ext.refl _ | assumption | refine Ext.alloc ?_ _ | refine Ext.drew ?_ | refine Ext.drewN ?_ _ | refine Ext.setCell ?_ (by first | exact Nat.le_refl _ | (simp; done) | (dsimp only; omega) | (simp only [World.size_alloc, World.size_setCell]; omega)) _ | refine Ext.trans ?_ (by assumption)))
      obtain ⟨bya6, byb6⟩ := HBY.out w6 (by repeat (first | exact Ext.refl _ | assumption | refine Ext.alloc ?_ _ | refine Ext.drew ?_ | refine Ext.drewN ?_ _ | refine Ext.setCell ?_ (by first | exact Nat.le_refl _ | (simp; done) | (dsimp only; omega) | (simp only [World.size_alloc, World.size_setCell]; omega)) _ | refine Ext.trans ?_ (by assumption)))
      clear bxa5 bxb5 bya5 byb5
      rw [← HL.out] at hrg
      go_wp2_with (fail)
      refine (eqFogS_same _ _ (L.length / 3) L _ (row_ints (row_ext hrg (by repeat (first | exact Ext.refl _ | assumption | refine Ext.alloc ?_ _ | refine Ext.drew ?_ | refine Ext.drewN ?_ _ | refine Ext.setCell ?_ (by first | exact Nat.le_refl _ | (simp; done) | (dsimp only; omega) | (simp only [World.size_alloc, World.size_setCell]; omega)) _ | refine Ext.trans ?_ (by assumption)))) (by unfold maxLen; omega) HLW.out) (row_ints (row_ext hrw (by repeat (first | exact Ext.refl _ | assumption | refine Ext.alloc ?_ _ | refine Ext.drew ?_ | refine Ext.drewN ?_ _ | refine Ext.setCell ?_ (by first | exact Nat.le_refl _ | (simp; done) | (dsimp only; omega) | (simp only [World.size_alloc, World.size_setCell]; omega)) _ | refine Ext.trans ?_ (by assumption)))) (by unfold maxLen; omega) HLW.out)).mono ?_
      rintro e w7 ⟨rfl, hb7⟩
      obtain ⟨bxa7, bxb7⟩ := HBX.out w7 (by repeat (first | exact Ext.refl _ | assumption | refine Ext.alloc ?_ _ | refine Ext.drew ?_ | refine Ext.drewN ?_ _ | refine Ext.setCell ?_ (by first | exact Nat.le_refl _ | (simp; done) | (dsimp only; omega) | (simp only [World.size_alloc, World.size_setCell]; omega)) _ | refine Ext.trans ?_ (by assumption)))
      obtain ⟨bya7, byb7⟩ := HBY.out w7 (by repeat (first | exact Ext.refl _ | assumption | refine Ext.alloc ?_ _ | refine Ext.drew ?_ | refine Ext.drewN ?_ _ | refine Ext.setCell ?_ (by first | exact Nat.le_refl _ | (simp; done) | (dsimp only; omega) | (simp only [World.size_alloc, World.size_setCell]; omega)) _ | refine Ext.trans ?_ (by assumption)))
      clear bxa6 bxb6 bya6 byb6
      go_wp2_with (fail)
      have SK0 := And.intro (HBX.out w7.drew (by repeat (first | exact Ext.refl _ | assumption | refine Ext.alloc ?_ _ | refine Ext.drew ?_ | refine Ext.drewN ?_ _ | refine Ext.setCell ?_ (by first | exact Nat.le_refl _ | (simp; done) | (dsimp only; omega) | (simp only [World.size_alloc, World.size_setCell]; omega)) _ | refine Ext.trans ?_ (by assumption)))) (HBY.out w7.drew (by repeat (first | exact Ext.refl _ | assumption | refine Ext.alloc ?_ _ | refine Ext.drew ?_ | refine Ext.drewN ?_ _ | refine Ext.setCell ?_ (by first | exact Nat.le_refl _ | (simp; done) | (dsimp only; omega) | (simp only [World.size_alloc, World.size_setCell]; omega)) _ | refine Ext.trans ?_ (by assumption))))
      refine wp_region_noPanic ?_
      refine wp_region_held_drew (S := (fun W => (W.cell? ⟨bg, 0, none⟩ = some vT0 ∧ W.cell? ⟨bg, 1, none⟩ = some vL0) ∧ (W.cell? ⟨by5, 0, none⟩ = some (.slice (some ⟨gT, 0, none⟩) nT0 nT0) ∧ W.cell? ⟨by5, 1, none⟩ = some (.slice (some ⟨gL, 0, none⟩) nL0 nL0)))) (by kernel_rfl) ?_ (fun hHeld => ?_)
      · first | exact SK0 | (dsimp only; exact SK0)
      refine wpAnyH_take (i := 0) (oi := { dst := some 62, op := _, type := _, pos := _, after := _, guard := _ }) (v := ?_) rfl (by kernel_rfl) (by kernel_rfl) (by kernel_rfl) (fun _ _ _ h => h) (Or.inl ⟨by rfl, ?_⟩) (by assumption) ?_
      rotate_left
      · (intro w hSw; (try dsimp only at hSw); go_simp) <;> (first | done | with_reducible rfl | rfl)
      try simp only [Act.put, List.setIfInBounds_toArray, List.set_cons_zero, List.set_cons_succ]
      refine wpAnyH_take (i := 1) (oi := { dst := some 63, op := _, type := _, pos := _, after := _, guard := _ }) (v := ?_) rfl (by kernel_rfl) (by kernel_rfl) (by kernel_rfl) (fun _ _ _ h => h) (Or.inl ⟨by rfl, ?_⟩) (by assumption) ?_
      rotate_left
      · (intro w hSw; (try dsimp only at hSw); go_simp) <;> (first | done | with_reducible rfl | rfl)
      try simp only [Act.put, List.setIfInBounds_toArray, List.set_cons_zero, List.set_cons_succ]
      refine wpAnyH_ready (rs := [2]) (by kernel_rfl) (by simp) ?_
      refine AllReadyH.cons (o := { dst := some 64, op := _, type := _, pos := _, after := _, guard := _ }) rfl (fun K hK => ?_) AllReadyH.nil
      go_simp
      go_at_call 17
      refine (toNet_any _ nT0 nL0 zT0 zL0 _ (r0.ext (by repeat (first | exact Ext.refl _ | assumption | refine Ext.alloc ?_ _ | refine Ext.drew ?_ | refine Ext.drewN ?_ _ | refine Ext.setCell ?_ (by first | exact Nat.le_refl _ | (simp; done) | (dsimp only; omega) | (simp only [World.size_alloc, World.size_setCell]; omega)) _ | refine Ext.trans ?_ (by assumption)))) hnT0 hnL0).mono ?_
      rintro e w8 ⟨x8, rfl, hr8, hb8⟩
      have SK := And.intro (HBX.out w8 (by repeat (first | exact Ext.refl _ | assumption | refine Ext.alloc ?_ _ | refine Ext.drew ?_ | refine Ext.drewN ?_ _ | refine Ext.setCell ?_ (by first | exact Nat.le_refl _ | (simp; done) | (dsimp only; omega) | (simp only [World.size_alloc, World.size_setCell]; omega)) _ | refine Ext.trans ?_ (by assumption)))) (HBY.out w8 (by repeat (first | exact Ext.refl _ | assumption | refine Ext.alloc ?_ _ | refine Ext.drew ?_ | refine Ext.drewN ?_ _ | refine Ext.setCell ?_ (by first | exact Nat.le_refl _ | (simp; done) | (dsimp only; omega) | (simp only [World.size_alloc, World.size_setCell]; omega)) _ | refine Ext.trans ?_ (by assumption))))
      refine hK.out _ _ ?_ (fun hHeld => ?_)
      · first | exact SK | (dsimp only; exact SK)
      clear hK K
      try simp only [Act.put, List.setIfInBounds_toArray, List.set_cons_zero, List.set_cons_succ]
      refine wpAnyH_ready (rs := [3]) (by kernel_rfl) (by simp) ?_
      refine AllReadyH.cons (o := { dst := some 65, op := _, type := _, pos := _, after := _, guard := _ }) rfl (fun K hK => ?_) AllReadyH.nil
      go_simp
      go_at_call 21
      refine (eqNet_same _ _ nT0 zT0 nL0 zL0 _ ((OwnNet.ext hr4 (by repeat (first | exact Ext.refl _ | assumption | refine Ext.alloc ?_ _ | refine Ext.drew ?_ | refine Ext.drewN ?_ _ | refine Ext.setCell ?_ (by first | exact Nat.le_refl _ | (simp; done) | (dsimp only; omega) | (simp only [World.size_alloc, World.size_setCell]; omega)) _ | refine Ext.trans ?_ (by assumption)))).net (by unfold maxLen; omega) (by unfold maxLen; omega) HWT0.out HWL0.out) ((OwnNet.ext hr8 (by repeat (first | exact Ext.refl _ | assumption | refine Ext.alloc ?_ _ | refine Ext.drew ?_ | refine Ext.drewN ?_ _ | refine Ext.setCell ?_ (by first | exact Nat.le_refl _ | (simp; done) | (dsimp only; omega) | (simp only [World.size_alloc, World.size_setCell]; omega)) _ | refine Ext.trans ?_ (by assumption)))).net (by unfold maxLen; omega) (by unfold maxLen; omega) HWT0.out HWL0.out)).mono ?_
      rintro e w9 ⟨rfl, hb9⟩
      have SK2 := And.intro (HBX.out w9 (by repeat (first | exact Ext.refl _ | assumption | refine Ext.alloc ?_ _ | refine Ext.drew ?_ | refine Ext.drewN ?_ _ | refine Ext.setCell ?_ (by first | exact Nat.le_refl _ | (simp; done) | (dsimp only; omega) | (simp only [World.size_alloc, World.size_setCell]; omega)) _ | refine Ext.trans ?_ (by assumption)))) (HBY.out w9 (by repeat (first | exact Ext.refl _ | assumption | refine Ext.alloc ?_ _ | refine Ext.drew ?_ | refine Ext.drewN ?_ _ | refine Ext.setCell ?_ (by first | exact Nat.le_refl _ | (simp; done) | (dsimp only; omega) | (simp only [World.size_alloc, World.size_setCell]; omega)) _ | refine Ext.trans ?_ (by assumption))))
      refine hK.out _ _ ?_ (fun hHeld => ?_)
      · first | exact SK2 | (dsimp only; exact SK2)
      clear hK K
      try simp only [Act.put, List.setIfInBounds_toArray, List.set_cons_zero, List.set_cons_succ]
      refine wpAnyH_take (i := 4) (oi := { dst := some 66, op := _, type := _, pos := _, after := _, guard := _ }) (v := ?_) rfl (by kernel_rfl) (by kernel_rfl) (by kernel_rfl) (fun _ _ _ h => h) (Or.inl ⟨by rfl, ?_⟩) (by assumption) ?_
      rotate_left
      · (intro w hSw; (try dsimp only at hSw); go_simp) <;> (first | done | with_reducible rfl | rfl)
      try simp only [Act.put, List.setIfInBounds_toArray, List.set_cons_zero, List.set_cons_succ]
      refine wpAnyH_done (by kernel_rfl) ?_ _
      refine NoPanic.normal ?_
      clear SK0 SK SK2
      obtain ⟨bxa9, bxb9⟩ := HBX.out w9 (by repeat (first | exact Ext.refl _ | assumption | refine Ext.alloc ?_ _ | refine Ext.drew ?_ | refine Ext.drewN ?_ _ | refine Ext.setCell ?_ (by first | exact Nat.le_refl _ | (simp; done) | (dsimp only; omega) | (simp only [World.size_alloc, World.size_setCell]; omega)) _ | refine Ext.trans ?_ (by assumption)))
      obtain ⟨bya9, byb9⟩ := HBY.out w9 (by repeat (first | exact Ext.refl _ | assumption | refine Ext.alloc ?_ _ | refine Ext.drew ?_ | refine Ext.drewN ?_ _ | refine Ext.setCell ?_ (by first | exact Nat.le_refl _ | (simp; done) | (dsimp only; omega) | (simp only [World.size_alloc, World.size_setCell]; omega)) _ | refine Ext.trans ?_ (by assumption)))
      clear bxa7 bxb7 bya7 byb7
      go_wp2_with (fail)
      refine (toFogS_any _ n1 z1 _ (r1.ext (by repeat (first | exact Ext.refl _ | assumption | refine Ext.alloc ?_ _ | refine Ext.drew ?_ | refine Ext.drewN ?_ _ | refine Ext.setCell ?_ (by first | exact Nat.le_refl _ | (simp; done) | (dsimp only; omega) | (simp only [World.size_alloc, World.size_setCell]; omega)) _ | refine Ext.trans ?_ (by assumption)))) hm1).mono ?_
      rintro e w10 ⟨g10, rfl, hr10, hb10⟩
      obtain ⟨bxa10, bxb10⟩ := HBX.out w10 (by repeat (first | exact Ext.refl _ | assumption | refine Ext.alloc ?_ _ | refine Ext.drew ?_ | refine Ext.drewN ?_ _ | refine Ext.setCell ?_ (by first | exact Nat.le_refl _ | (simp; done) | (dsimp only; omega) | (simp only [World.size_alloc, World.size_setCell]; omega)) _ | refine Ext.trans ?_ (by assumption)))
      obtain ⟨bya10, byb10⟩ := HBY.out w10 (by repeat (first | exact Ext.refl _ | assumption | refine Ext.alloc ?_ _ | refine Ext.drew ?_ | refine Ext.drewN ?_ _ | refine Ext.setCell ?_ (by first | exact Nat.le_refl _ | (simp; done) | (dsimp only; omega) | (simp only [World.size_alloc, World.size_setCell]; omega)) _ | refine Ext.trans ?_ (by assumption)))
      clear bxa9 bxb9 bya9 byb9
      go_wp2_with (fail)
      refine (eqFogS_same _ _ n1 z1 _ (row_ints (row_ext hr5 (by repeat (first | exact Ext.refl _ | assumption | refine Ext.alloc ?_ _ | refine Ext.drew ?_ | refine Ext.drewN ?_ _ | refine Ext.setCell ?_ (by first | exact Nat.le_refl _ | (simp; done) | (dsimp only; omega) | (simp only [World.size_alloc, World.size_setCell]; omega)) _ | refine Ext.trans ?_ (by assumption)))) (by unfold maxLen; omega) HW1.out) (row_ints (row_ext hr10 (by repeat (first | exact Ext.refl _ | assumption | refine Ext.alloc ?_ _ | refine Ext.drew ?_ | refine Ext.drewN ?_ _ | refine Ext.setCell ?_ (by first | exact Nat.le_refl _ | (simp; done) | (dsimp only; omega) | (simp only [World.size_alloc, World.size_setCell]; omega)) _ | refine Ext.trans ?_ (by assumption)))) (by unfold maxLen; omega) HW1.out)).mono ?_
      rintro e w11 ⟨rfl, hb11⟩
      obtain ⟨bxa11, bxb11⟩ := HBX.out w11 (by repeat (first | exact Ext.refl _ | assumption | refine Ext.alloc ?_ _ | refine Ext.drew ?_ | refine Ext.drewN ?_ _ | refine Ext.setCell ?_ (by first | exact Nat.le_refl _ | (simp; done) | (dsimp only; omega) | (simp only [World.size_alloc, World.size_setCell]; omega)) _ | refine Ext.trans ?_ (by assumption)))
      obtain ⟨bya11, byb11⟩ := HBY.out w11 (by repeat (first | exact Ext.refl _ | assumption | refine Ext.alloc ?_ _ | refine Ext.drew ?_ | refine Ext.drewN ?_ _ | refine Ext.setCell ?_ (by first | exact Nat.le_refl _ | (simp; done) | (dsimp only; omega) | (simp only [World.size_alloc, World.size_setCell]; omega)) _ | refine Ext.trans ?_ (by assumption)))
      clear bxa10 bxb10 bya10 byb10
      have hrw11 := row_ext hrw ((by repeat (first | exact Ext.refl _ | assumption | refine Ext.alloc ?_ _ | refine Ext.drew ?_ | refine Ext.drewN ?_ _ | refine Ext.setCell ?_ (by first | exact Nat.le_refl _ | (simp; done) | (dsimp only; omega) | (simp only [World.size_alloc, World.size_setCell]; omega)) _ | refine Ext.trans ?_ (by assumption))) : Ext w3 w11)
      have hrg11 := row_ext hrg ((by repeat (first | exact Ext.refl _ | assumption | refine Ext.alloc ?_ _ | refine Ext.drew ?_ | refine Ext.drewN ?_ _ | refine Ext.setCell ?_ (by first | exact Nat.le_refl _ | (simp; done) | (dsimp only; omega) | (simp only [World.size_alloc, World.size_setCell]; omega)) _ | refine Ext.trans ?_ (by assumption))) : Ext w6 w11)
      have ha0 := OwnNet.ext hr4 ((by repeat (first | exact Ext.refl _ | assumption | refine Ext.alloc ?_ _ | refine Ext.drew ?_ | refine Ext.drewN ?_ _ | refine Ext.setCell ?_ (by first | exact Nat.le_refl _ | (simp; done) | (dsimp only; omega) | (simp only [World.size_alloc, World.size_setCell]; omega)) _ | refine Ext.trans ?_ (by assumption))) : Ext w4 w11)
      have ha1 := row_ext hr5 ((by repeat (first | exact Ext.refl _ | assumption | refine Ext.alloc ?_ _ | refine Ext.drew ?_ | refine Ext.drewN ?_ _ | refine Ext.setCell ?_ (by first | exact Nat.le_refl _ | (simp; done) | (dsimp only; omega) | (simp only [World.size_alloc, World.size_setCell]; omega)) _ | refine Ext.trans ?_ (by assumption))) : Ext w5 w11)
      have hSZ0 : w3.heap.size ≤ wy.heap.size := ((by repeat (first | exact Ext.refl _ | assumption | refine Ext.alloc ?_ _ | refine Ext.drew ?_ | refine Ext.drewN ?_ _ | refine Ext.setCell ?_ (by first | exact Nat.le_refl _ | (simp; done) | (dsimp only; omega) | (simp only [World.size_alloc, World.size_setCell]; omega)) _ | refine Ext.trans ?_ (by assumption))) : Ext w3 wy).size
      have hSZ1 : wy.heap.size ≤ w5.heap.size := ((by repeat (first | exact Ext.refl _ | assumption | refine Ext.alloc ?_ _ | refine Ext.drew ?_ | refine Ext.drewN ?_ _ | refine Ext.setCell ?_ (by first | exact Nat.le_refl _ | (simp; done) | (dsimp only; omega) | (simp only [World.size_alloc, World.size_setCell]; omega)) _ | refine Ext.trans ?_ (by assumption))) : Ext wy w5).size
      have hSZa : w0.heap.size ≤ w3.heap.size := ((by repeat (first | exact Ext.refl _ | assumption | refine Ext.alloc ?_ _ | refine Ext.drew ?_ | refine Ext.drewN ?_ _ | refine Ext.setCell ?_ (by first | exact Nat.le_refl _ | (simp; done) | (dsimp only; omega) | (simp only [World.size_alloc, World.size_setCell]; omega)) _ | refine Ext.trans ?_ (by assumption))) : Ext w0 w3).size
      have hE11 : Ext w0 w11 := (by repeat (first | exact Ext.refl _ | assumption | refine Ext.alloc ?_ _ | refine Ext.drew ?_ | refine Ext.drewN ?_ _ | refine Ext.setCell ?_ (by first | exact Nat.le_refl _ | (simp; done) | (dsimp only; omega) | (simp only [World.size_alloc, World.size_setCell]; omega)) _ | refine Ext.trans ?_ (by assumption)))
      obtain ⟨S0, hS0⟩ : ∃ n, n = w3.heap.size := ⟨_, rfl⟩
      obtain ⟨S1, hS1⟩ : ∃ n, n = wy.heap.size := ⟨_, rfl⟩
      obtain ⟨S2, hS2⟩ : ∃ n, n = w5.heap.size := ⟨_, rfl⟩
      have hz1 : w0.heap.size ≤ S0 := by rw [hS0]; exact hSZa
      have hSS0 : S0 ≤ S1 := by rw [hS0, hS1]; exact hSZ0
      have hSS1 : S1 ≤ S2 := by rw [hS1, hS2]; exact hSZ1
      have HHLW : Hid (∀ k, vw.ownBlock = some k → k < S0) := hid (fun k hk => by rw [hS0]; exact (hrw.lt k hk).2)
      have HHLG : Hid (∀ k, vg.ownBlock = some k → S2 ≤ k) := hid (fun k hk => by rw [hS2]; exact (hrg.lt k hk).1)
      have hh0 : ∀ gT2 gL2, Value.agg #[.slice (some ⟨gT, 0, none⟩) nT0 nT0, .slice (some ⟨gL, 0, none⟩) nL0 nL0] = .agg #[.slice (some ⟨gT2, 0, none⟩) nT0 nT0, .slice (some ⟨gL2, 0, none⟩) nL0 nL0] → gL2 < S1 := fun gT2 gL2 hx => by rw [hS1]; exact Nat.lt_of_lt_of_le (hr4.hi gT2 gL2 hx) e5y.size
      have HH0 := hid hh0
      clear hh0
      rw [← hS0] at ha0
      have hh1 : S1 ≤ g5 ∧ g5 < S2 := by rw [hS1, hS2]; exact hr5.lt g5 rfl
      rw [← hS1] at ha1
      rw [← hS2] at hrg11
      clear hS0 hS1 hS2 hSZ0 hSZ1 hSZa hrw hrg hb1 hb2 hb3 hb4 hb5 hb6 hb7 hb8 hb9 hb10 hb11 hr1 hr2 hr4 hr5
      go_wp2_with (fail)
      refine (markNet_any _ nT0 zT0 nL0 zL0 S0 S1 _ 1 ha0 HH0.out (by omega) (by omega) (by omega) (by omega)).mono ?_
      rintro e w12 ⟨rfl, hc12⟩
      have hE12 : Ext w0 w12 := hE11.of_chg hc12 (by omega)
      have hrw12 := row_chg hrw11 hc12 (fun k hk => .inl (by have := HHLW.out k hk; omega))
      have hrg12 := row_chg hrg11 hc12 (fun k hk => .inr (by have := HHLG.out k hk; omega))
      replace ha1 := row_chg ha1 hc12 (fun k hk => .inr (by have := (ha1.lt k hk).1; omega))
      obtain ⟨bxa12, bxb12⟩ := HBX.out w12 (by repeat (first | exact Ext.refl _ | assumption | refine Ext.alloc ?_ _ | refine Ext.drew ?_ | refine Ext.drewN ?_ _ | refine Ext.setCell ?_ (by first | exact Nat.le_refl _ | (simp; done) | (dsimp only; omega) | (simp only [World.size_alloc, World.size_setCell]; omega)) _ | refine Ext.trans ?_ (by assumption)))
      clear bxa11 bxb11 bya11 byb11
      clear ha0 hc12 hrw11 hrg11 hE11
      go_wp2_with (fail)
      refine (markFogS_any _ n1 _ S1 _ (1 + 3 * nT0 + 3 * nL0) ha1 (by omega) (by omega) (by omega)).mono ?_
      rintro e w13 ⟨rfl, hrx13, hc13⟩
      have hc13 := Chg.of_grown (lo := S1) (hi := S2) hc13 (fun k hk => by simp [Value.ownBlock] at hk; omega)
      clear hrx13
      have hE13 : Ext w0 w13 := hE12.of_chg hc13 (by omega)
      have hrw13 := row_chg hrw12 hc13 (fun k hk => .inl (by have := HHLW.out k hk; omega))
      have hrg13 := row_chg hrg12 hc13 (fun k hk => .inr (by have := HHLG.out k hk; omega))
      obtain ⟨bxa13, bxb13⟩ := HBX.out w13 (by repeat (first | exact Ext.refl _ | assumption | refine Ext.alloc ?_ _ | refine Ext.drew ?_ | refine Ext.drewN ?_ _ | refine Ext.setCell ?_ (by first | exact Nat.le_refl _ | (simp; done) | (dsimp only; omega) | (simp only [World.size_alloc, World.size_setCell]; omega)) _ | refine Ext.trans ?_ (by assumption)))
      clear bxa12 bxb12
      clear ha1 hc13 hrw12 hrg12 hE12
      go_wp2_with (fail)
      refine (eqFogS_same _ _ (L.length / 3) L _ (row_ints (row_ext hrg13 (by repeat (first | exact Ext.refl _ | assumption | refine Ext.alloc ?_ _ | refine Ext.drew ?_ | refine Ext.drewN ?_ _ | refine Ext.setCell ?_ (by first | exact Nat.le_refl _ | (simp; done) | (dsimp only; omega) | (simp only [World.size_alloc, World.size_setCell]; omega)) _ | refine Ext.trans ?_ (by assumption)))) (by unfold maxLen; omega) HLW.out) (row_ints (row_ext hrw13 (by repeat (first | exact Ext.refl _ | assumption | refine Ext.alloc ?_ _ | refine Ext.drew ?_ | refine Ext.drewN ?_ _ | refine Ext.setCell ?_ (by first | exact Nat.le_refl _ | (simp; done) | (dsimp only; omega) | (simp only [World.size_alloc, World.size_setCell]; omega)) _ | refine Ext.trans ?_ (by assumption)))) (by unfold maxLen; omega) HLW.out)).mono ?_
      rintro e w14 ⟨rfl, hb14⟩
      obtain ⟨bxa14, bxb14⟩ := HBX.out w14 (by repeat (first | exact Ext.refl _ | assumption | refine Ext.alloc ?_ _ | refine Ext.drew ?_ | refine Ext.drewN ?_ _ | refine Ext.setCell ?_ (by first | exact Nat.le_refl _ | (simp; done) | (dsimp only; omega) | (simp only [World.size_alloc, World.size_setCell]; omega)) _ | refine Ext.trans ?_ (by assumption)))
      clear bxa13 bxb13
      have hE14 : Ext w0 w14 := hE13.trans hb14
      have hrw14 := row_ext hrw13 hb14
      have hrg14 := row_ext hrg13 hb14
      clear hb14 hrw13 hrg13
      go_wp2_with (fail)
      refine (markFogS_any _ _ _ S2 _ 1 hrg14 (by omega) (by omega) (by omega)).mono ?_
      rintro e w15 ⟨rfl, hrm, hg15⟩
      have hE15 : Ext w0 w15 := hE14.of_grownAt hg15 (fun k hk => by have := HHLG.out k hk; omega)
      have hrw15 := row_below (B := S0) hrw14 HHLW.out hg15 (fun k hk => by have := HHLG.out k hk; omega)
      clear hg15 hrw14 hrg14
      obtain ⟨bxa15, bxb15⟩ := HBX.out w15 (by repeat (first | exact Ext.refl _ | assumption | refine Ext.alloc ?_ _ | refine Ext.drew ?_ | refine Ext.drewN ?_ _ | refine Ext.setCell ?_ (by first | exact Nat.le_refl _ | (simp; done) | (dsimp only; omega) | (simp only [World.size_alloc, World.size_setCell]; omega)) _ | refine Ext.trans ?_ (by assumption)))
      clear bxa14 bxb14
      go_wp2_with (fail)
      refine (heldFogS_same _ (L.length / 3) _ 1 (row_ints (row_ext hrm (by repeat (first | exact Ext.refl _ | assumption | refine Ext.alloc ?_ _ | refine Ext.drew ?_ | refine Ext.drewN ?_ _ | refine Ext.setCell ?_ (by first | exact Nat.le_refl _ | (simp; done) | (dsimp only; omega) | (simp only [World.size_alloc, World.size_setCell]; omega)) _ | refine Ext.trans ?_ (by assumption)))) (by unfold maxLen; omega) (marks_wf (by omega) (by omega))) (by omega) (by omega) (by omega)).mono ?_
      rintro e w16 ⟨rfl, hb16⟩
      obtain ⟨bxa16, bxb16⟩ := HBX.out w16 (by repeat (first | exact Ext.refl _ | assumption | refine Ext.alloc ?_ _ | refine Ext.drew ?_ | refine Ext.drewN ?_ _ | refine Ext.setCell ?_ (by first | exact Nat.le_refl _ | (simp; done) | (dsimp only; omega) | (simp only [World.size_alloc, World.size_setCell]; omega)) _ | refine Ext.trans ?_ (by assumption)))
      clear bxa15 bxb15
      go_wp2_with (fail)
      refine (toNet_any _ nT0 nL0 zT0 zL0 _ (r0.ext (by repeat (first | exact Ext.refl _ | assumption | refine Ext.alloc ?_ _ | refine Ext.drew ?_ | refine Ext.drewN ?_ _ | refine Ext.setCell ?_ (by first | exact Nat.le_refl _ | (simp; done) | (dsimp only; omega) | (simp only [World.size_alloc, World.size_setCell]; omega)) _ | refine Ext.trans ?_ (by assumption)))) hnT0 hnL0).mono ?_
      rintro e w17 ⟨x17, rfl, hr17, hb17⟩
      obtain ⟨bxa17, bxb17⟩ := HBX.out w17 (by repeat (first | exact Ext.refl _ | assumption | refine Ext.alloc ?_ _ | refine Ext.drew ?_ | refine Ext.drewN ?_ _ | refine Ext.setCell ?_ (by first | exact Nat.le_refl _ | (simp; done) | (dsimp only; omega) | (simp only [World.size_alloc, World.size_setCell]; omega)) _ | refine Ext.trans ?_ (by assumption)))
      clear bxa16 bxb16
      go_wp2_with (fail)
      refine (toFogS_any _ n1 z1 _ (r1.ext (by repeat (first | exact Ext.refl _ | assumption | refine Ext.alloc ?_ _ | refine Ext.drew ?_ | refine Ext.drewN ?_ _ | refine Ext.setCell ?_ (by first | exact Nat.le_refl _ | (simp; done) | (dsimp only; omega) | (simp only [World.size_alloc, World.size_setCell]; omega)) _ | refine Ext.trans ?_ (by assumption)))) hm1).mono ?_
      rintro e w18 ⟨g18, rfl, hr18, hb18⟩
      obtain ⟨bxa18, bxb18⟩ := HBX.out w18 (by repeat (first | exact Ext.refl _ | assumption | refine Ext.alloc ?_ _ | refine Ext.drew ?_ | refine Ext.drewN ?_ _ | refine Ext.setCell ?_ (by first | exact Nat.le_refl _ | (simp; done) | (dsimp only; omega) | (simp only [World.size_alloc, World.size_setCell]; omega)) _ | refine Ext.trans ?_ (by assumption)))
      clear bxa17 bxb17
      go_wp2_with (fail)
      refine (iNightFogs_any _ nT0 zT0 nL0 zL0 _ n1 z1 a2 a3 _ ((OwnNet.ext hr17 (by repeat (first | exact Ext.refl _ | assumption | refine Ext.alloc ?_ _ | refine Ext.drew ?_ | refine Ext.drewN ?_ _ | refine Ext.setCell ?_ (by first | exact Nat.le_refl _ | (simp; done) | (dsimp only; omega) | (simp only [World.size_alloc, World.size_setCell]; omega)) _ | refine Ext.trans ?_ (by assumption)))).net (by unfold maxLen; omega) (by unfold maxLen; omega) HWT0.out HWL0.out) (row_ints (row_ext hr18 (by repeat (first | exact Ext.refl _ | assumption | refine Ext.alloc ?_ _ | refine Ext.drew ?_ | refine Ext.drewN ?_ _ | refine Ext.setCell ?_ (by first | exact Nat.le_refl _ | (simp; done) | (dsimp only; omega) | (simp only [World.size_alloc, World.size_setCell]; omega)) _ | refine Ext.trans ?_ (by assumption)))) (by unfold maxLen; omega) HW1.out)).mono ?_
      rintro e w19 ⟨vh, rfl, hrh, hb19⟩
      obtain ⟨bxa19, bxb19⟩ := HBX.out w19 (by repeat (first | exact Ext.refl _ | assumption | refine Ext.alloc ?_ _ | refine Ext.drew ?_ | refine Ext.drewN ?_ _ | refine Ext.setCell ?_ (by first | exact Nat.le_refl _ | (simp; done) | (dsimp only; omega) | (simp only [World.size_alloc, World.size_setCell]; omega)) _ | refine Ext.trans ?_ (by assumption)))
      clear bxa18 bxb18
      rw [← HL.out] at hrh
      go_wp2_with (fail)
      refine (eqFogS_same _ _ (L.length / 3) L _ (row_ints (row_ext hrh (by repeat (first | exact Ext.refl _ | assumption | refine Ext.alloc ?_ _ | refine Ext.drew ?_ | refine Ext.drewN ?_ _ | refine Ext.setCell ?_ (by first | exact Nat.le_refl _ | (simp; done) | (dsimp only; omega) | (simp only [World.size_alloc, World.size_setCell]; omega)) _ | refine Ext.trans ?_ (by assumption)))) (by unfold maxLen; omega) HLW.out) (row_ints (row_ext hrw15 (by repeat (first | exact Ext.refl _ | assumption | refine Ext.alloc ?_ _ | refine Ext.drew ?_ | refine Ext.drewN ?_ _ | refine Ext.setCell ?_ (by first | exact Nat.le_refl _ | (simp; done) | (dsimp only; omega) | (simp only [World.size_alloc, World.size_setCell]; omega)) _ | refine Ext.trans ?_ (by assumption)))) (by unfold maxLen; omega) HLW.out)).mono ?_
      rintro e w20 ⟨rfl, hb20⟩
      obtain ⟨bxa20, bxb20⟩ := HBX.out w20 (by repeat (first | exact Ext.refl _ | assumption | refine Ext.alloc ?_ _ | refine Ext.drew ?_ | refine Ext.drewN ?_ _ | refine Ext.setCell ?_ (by first | exact Nat.le_refl _ | (simp; done) | (dsimp only; omega) | (simp only [World.size_alloc, World.size_setCell]; omega)) _ | refine Ext.trans ?_ (by assumption)))
      clear bxa19 bxb19
      go_wp2_with (fail)
      refine (heldFogS_same _ (L.length / 3) _ 1 (row_ints (row_ext hrm (by repeat (first | exact Ext.refl _ | assumption | refine Ext.alloc ?_ _ | refine Ext.drew ?_ | refine Ext.drewN ?_ _ | refine Ext.setCell ?_ (by first | exact Nat.le_refl _ | (simp; done) | (dsimp only; omega) | (simp only [World.size_alloc, World.size_setCell]; omega)) _ | refine Ext.trans ?_ (by assumption)))) (by unfold maxLen; omega) (marks_wf (by omega) (by omega))) (by omega) (by omega) (by omega)).mono ?_
      rintro e w21 ⟨rfl, hb21⟩
      obtain ⟨bxa21, bxb21⟩ := HBX.out w21 (by repeat (first | exact Ext.refl _ | assumption | refine Ext.alloc ?_ _ | refine Ext.drew ?_ | refine Ext.drewN ?_ _ | refine Ext.setCell ?_ (by first | exact Nat.le_refl _ | (simp; done) | (dsimp only; omega) | (simp only [World.size_alloc, World.size_setCell]; omega)) _ | refine Ext.trans ?_ (by assumption)))
      clear bxa20 bxb20
      go_wp2_with (fail)
      go_ret
      exact ⟨rfl, (by repeat (first | exact Ext.refl _ | assumption | refine Ext.alloc ?_ _ | refine Ext.drew ?_ | refine Ext.drewN ?_ _ | refine Ext.setCell ?_ (by first | exact Nat.le_refl _ | (simp; done) | (dsimp only; omega) | (simp only [World.size_alloc, World.size_setCell]; omega)) _ | refine Ext.trans ?_ (by assumption)))⟩
    · rw [if_neg hn1] at hsz1
      have HQ0 := hid hq0
      clear hq0
      go_enter Try.func3, Try.ntmps3
      go_wp2_with (fail)
      have e00 : Ext w (w.alloc (.cells #[vT0, vL0] 25)) := (Ext.refl w).alloc _
      have bp0 : (w.alloc (.cells #[vT0, vL0] 25)).cell? ⟨w.heap.size, 0, none⟩ = some vT0 := by simp [go_sem]
      have bp1 : (w.alloc (.cells #[vT0, vL0] 25)).cell? ⟨w.heap.size, 1, none⟩ = some vL0 := by simp [go_sem]
      have bgs : w.heap.size < (w.alloc (.cells #[vT0, vL0] 25)).heap.size := by simp
      generalize (w.alloc (.cells #[vT0, vL0] 25)) = w0 at *
      obtain ⟨bg, hbg⟩ : ∃ g, g = w.heap.size := ⟨_, rfl⟩
      rw [← hbg] at bp0 bp1 bgs ⊢
      have HBX := hid (fun (W : World) (hW : Ext w0 W) => show W.cell? ⟨bg, 0, none⟩ = some vT0 ∧ W.cell? ⟨bg, 1, none⟩ = some vL0 from ⟨by rw [(Ext.cells hW).1 _ _ bgs]; exact bp0, by rw [(Ext.cells hW).1 _ _ bgs]; exact bp1⟩)
      clear hbg
      go_wp2_with (fail)
      refine (hsz0 _ (by repeat (first | exact Ext.refl _ | assumption | refine Ext.alloc ?_ _ | refine Ext.drew ?_ | refine Ext.drewN ?_ _ | refine Ext.setCell ?_ (by first | exact Nat.le_refl _ | (simp; done) | (dsimp only; omega) | (simp only [World.size_alloc, World.size_setCell]; omega)) _ | refine Ext.trans ?_ (by assumption)))).mono ?_
      rintro e wz ⟨rfl, hbz⟩
      clear bp0 bp1
      obtain ⟨bxa, bxb⟩ := HBX.out wz (by repeat (first | exact Ext.refl _ | assumption | refine Ext.alloc ?_ _ | refine Ext.drew ?_ | refine Ext.drewN ?_ _ | refine Ext.setCell ?_ (by first | exact Nat.le_refl _ | (simp; done) | (dsimp only; omega) | (simp only [World.size_alloc, World.size_setCell]; omega)) _ | refine Ext.trans ?_ (by assumption)))
      clear hsz0
      go_wp2_with (fail)
      refine (hsz1 _ (by repeat (first | exact Ext.refl _ | assumption | refine Ext.alloc ?_ _ | refine Ext.drew ?_ | refine Ext.drewN ?_ _ | refine Ext.setCell ?_ (by first | exact Nat.le_refl _ | (simp; done) | (dsimp only; omega) | (simp only [World.size_alloc, World.size_setCell]; omega)) _ | refine Ext.trans ?_ (by assumption)))).mono ?_
      rintro e w' ⟨rfl, rfl⟩
      clear hsz1
      go_wp2_with (fail)
      go_ret
      exact ⟨rfl, (by repeat (first | exact Ext.refl _ | assumption | refine Ext.alloc ?_ _ | refine Ext.drew ?_ | refine Ext.drewN ?_ _ | refine Ext.setCell ?_ (by first | exact Nat.le_refl _ | (simp; done) | (dsimp only; omega) | (simp only [World.size_alloc, World.size_setCell]; omega)) _ | refine Ext.trans ?_ (by assumption)))⟩
  · rw [if_neg hn0] at hsz0
    go_enter Try.func3, Try.ntmps3
    go_wp2_with (fail)
    have e00 : Ext w (w.alloc (.cells #[vT0, vL0] 25)) := (Ext.refl w).alloc _
    have bp0 : (w.alloc (.cells #[vT0, vL0] 25)).cell? ⟨w.heap.size, 0, none⟩ = some vT0 := by simp [go_sem]
    have bp1 : (w.alloc (.cells #[vT0, vL0] 25)).cell? ⟨w.heap.size, 1, none⟩ = some vL0 := by simp [go_sem]
    have bgs : w.heap.size < (w.alloc (.cells #[vT0, vL0] 25)).heap.size := by simp
    generalize (w.alloc (.cells #[vT0, vL0] 25)) = w0 at *
    obtain ⟨bg, hbg⟩ : ∃ g, g = w.heap.size := ⟨_, rfl⟩
    rw [← hbg] at bp0 bp1 bgs ⊢
    have HBX := hid (fun (W : World) (hW : Ext w0 W) => show W.cell? ⟨bg, 0, none⟩ = some vT0 ∧ W.cell? ⟨bg, 1, none⟩ = some vL0 from ⟨by rw [(Ext.cells hW).1 _ _ bgs]; exact bp0, by rw [(Ext.cells hW).1 _ _ bgs]; exact bp1⟩)
    clear hbg
    go_wp2_with (fail)
    refine (hsz0 _ (by repeat (first | exact Ext.refl _ | assumption | refine Ext.alloc ?_ _ | refine Ext.drew ?_ | refine Ext.drewN ?_ _ | refine Ext.setCell ?_ (by first | exact Nat.le_refl _ | (simp; done) | (dsimp only; omega) | (simp only [World.size_alloc, World.size_setCell]; omega)) _ | refine Ext.trans ?_ (by assumption)))).mono ?_
    rintro e wz ⟨rfl, hbz⟩
    clear bp0 bp1
    obtain ⟨bxa, bxb⟩ := HBX.out wz (by repeat (first | exact Ext.refl _ | assumption | refine Ext.alloc ?_ _ | refine Ext.drew ?_ | refine Ext.drewN ?_ _ | refine Ext.setCell ?_ (by first | exact Nat.le_refl _ | (simp; done) | (dsimp only; omega) | (simp only [World.size_alloc, World.size_setCell]; omega)) _ | refine Ext.trans ?_ (by assumption)))
    clear hsz0
    go_wp2_with (fail)
    go_ret
    exact ⟨rfl, (by repeat (first | exact Ext.refl _ | assumption | refine Ext.alloc ?_ _ | refine Ext.drew ?_ | refine Ext.drewN ?_ _ | refine Ext.setCell ?_ (by first | exact Nat.le_refl _ | (simp; done) | (dsimp only; omega) | (simp only [World.size_alloc, World.size_setCell]; omega)) _ | refine Ext.trans ?_ (by assumption)))⟩

end Go.Proofs.Ytlmfohjfbolhpaa