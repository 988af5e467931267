/- Nights on all links. No condition. -/
import Derived.Test.YtjmbhlhkjjinbaaHldP
namespace Go.Proofs.Ytjmbhlhkjjinbaa
open Go.RowKit
set_option linter.unusedSimpArgs false
set_option linter.unusedVariables false
open Go.Shelf Go.Sort

def nfC (nT : Nat) (zT : List Int) (nL : Nat) (zL zF : List Int) (n : Nat) (a b : Int) : Bool := okNet nT zT nL zL && (okFg nL zF n && (inR a 0 9999 && inR b (a + 1) 10000))
def nfB (zF : List Int) (n : Nat) (a b : Int) (nL : Nat) : Bool := allB (fun j => decide ((nfT zF n a b (j + 1)).length ≤ 60)) nL
def nfQ (nT : Nat) (zT : List Int) (nL : Nat) (zL zF : List Int) (n : Nat) (a b : Int) : Bool := nfC nT zT nL zL zF n a b && nfB zF n a b nL
def nfL (nT : Nat) (zT : List Int) (nL : Nat) (zL zF : List Int) (n : Nat) (a b : Int) : List Int := if nfQ nT zT nL zL zF n a b = true then flat (nfT zF n a b nL) else []
theorem nfC_iff {nT nL n : Nat} {zT zL zF : List Int} {a b : Int} (h : nfC nT zT nL zL zF n a b = true) : okNet nT zT nL zL = true ∧ okFg nL zF n = true ∧ (0 ≤ a ∧ a ≤ 9999) ∧ a + 1 ≤ b ∧ b ≤ 10000 := by
  unfold nfC at h
  rw [Bool.and_eq_true, Bool.and_eq_true, Bool.and_eq_true, inR_iff, inR_iff] at h
  exact ⟨h.1, h.2.1, h.2.2.1, h.2.2.2⟩
theorem nfT_len {zF : List Int} {n : Nat} {a b : Int} {nL : Nat} (h : okFg nL zF n = true) {k : Nat} (hk : ∀ j, j < k → (nfT zF n a b (j + 1)).length ≤ 60) : ∀ i, i ≤ k → (nfT zF n a b i).length ≤ 60
  | 0, _ => by rw [nfT, tri_length]; exact (okFg_iff h).1
  | i + 1, hi => hk i (by omega)
theorem nfL_inv (nT : Nat) (zT : List Int) (nL : Nat) (zL zF : List Int) (n : Nat) (a b : Int) : (∀ x ∈ nfL nT zT nL zL zF n a b, (Lit.int .i64 x).wf = true) ∧ (nfL nT zT nL zL zF n a b).length ≤ 180 := by
  unfold nfL
  by_cases c : nfQ nT zT nL zL zF n a b = true
  · rw [if_pos c]
    unfold nfQ at c
    rw [Bool.and_eq_true] at c
    obtain ⟨h1, h2, h3, h4⟩ := nfC_iff c.1
    have hl := nfT_len h2 (a := a) (b := b) (k := nL) (fun j hj => by have := allB_get c.2 j hj; simpa using this)
    have hn := (okNet_iff h1).2.1
    obtain ⟨_, hw⟩ := nfT_inv h2 (a := a) (b := b) h3.1 (by omega) (by omega) nL (Nat.le_refl _) (fun i hi => hl i (by omega))
    exact ⟨flat_wf hw (by omega), by rw [flat_len]; have := hl nL (Nat.le_refl _); omega⟩
  · rw [if_neg c]
    simp


set_option maxRecDepth 100000 in
set_option maxHeartbeats 4000000 in
theorem sNightFogs_any (v : Value) (nT : Nat) (zT : List Int) (nL : Nat) (zL : List Int) (u : Value) (n : Nat) (z : List Int) (a b : Int) (w : World) (hN : NetRow w v nT zT nL zL) (hF : IntRow .i64 3 w u n z) :
    Calls Try.prog 12 #[v, u, .int .i64 a, .int .i64 b] w fun e w' => ∃ v', e = .returned (.tuple #[v', .bool (nfQ nT zT nL zL z n a b)]) ∧ w'.ownsRow w.heap.size 78 3 v' ((nfL nT zT nL zL z n a b).length / 3) ((nfL nT zT nL zL z n a b).map (Value.int .i64)) ∧ Ext w w' := by
  obtain ⟨i0, hi0, hz0, hz1, hz2⟩ := info_parts info_Fog
  have HN := hid hN
  have HF := hid hF
  obtain ⟨vT, vL, rfl, hT, hL⟩ := hN
  obtain ⟨_, _, _, aT, cT, rfl, _, _, _⟩ := hT
  obtain ⟨_, hmL, _, aL, cL, rfl, _, _, _⟩ := hL
  obtain ⟨hl, hm, hwf, ad, c, rfl, hnc, hcm, hcell⟩ := hF
  have HW := hid hwf
  clear hwf hcell
  have hn9 : n ≤ 9223372036854775807 := by unfold maxLen at hm; omega
  have e00 : Ext w (w.alloc (.cells #[.slice aT nT cT, .slice aL nL cL] 27)) := (Ext.refl w).alloc _
  have bp0 : (w.alloc (.cells #[.slice aT nT cT, .slice aL nL cL] 27)).cell? ⟨w.heap.size, 0, none⟩ = some (.slice aT nT cT) := by simp [go_sem]
  have bp1 : (w.alloc (.cells #[.slice aT nT cT, .slice aL nL cL] 27)).cell? ⟨w.heap.size, 1, none⟩ = some (.slice aL nL cL) := by simp [go_sem]
  have bgs : w.heap.size < (w.alloc (.cells #[.slice aT nT cT, .slice aL nL cL] 27)).heap.size := by simp
  obtain ⟨Q, hQ⟩ : ∃ q, q = nfQ nT zT nL zL z n a b := ⟨_, rfl⟩
  obtain ⟨L, hLe⟩ : ∃ l, l = nfL nT zT nL zL z n a b := ⟨_, rfl⟩
  rw [← hQ, ← hLe]
  have HLE := hid hLe
  have HQQ := hid hQ
  clear hQ hLe
  cases h0 : okNet nT zT nL zL with
  | false =>
    have H0 := hid h0
    have HC := hid (show nfC nT zT nL zL z n a b = false by unfold nfC; simp [H0.out])
    have HQ2 := hid (show Q = false by rw [HQQ.out]; unfold nfQ; rw [HC.out]; rfl)
    have HL2 := hid (show L = [] by rw [HLE.out]; unfold nfL nfQ; rw [HC.out]; rfl)
    clear h0
    go_enter Try.func12, Try.ntmps12
    go_wp2_with (fail)
    generalize hW0 : (w.alloc (.cells #[.slice aT nT cT, .slice aL nL cL] 27)) = w0
    rw [hW0] at e00 bp0 bp1 bgs
    clear hW0
    obtain ⟨bg, hbg⟩ : ∃ g, g = w.heap.size := ⟨_, rfl⟩
    rw [← hbg] at bp0 bp1 bgs ⊢
    have HBX := hid (fun (W : World) (hW : Ext w0 W) => show W.cell? ⟨bg, 0, none⟩ = some (.slice aT nT cT) ∧ W.cell? ⟨bg, 1, none⟩ = some (.slice aL nL cL) from ⟨by rw [(Ext.cells hW).1 _ _ bgs]; exact bp0, by rw [(Ext.cells hW).1 _ _ bgs]; exact bp1⟩)
    clear hbg bp0 bp1
    refine (neGood_any _ nT zT nL zL _ (HN.out.ext (by repeat (first | exact Ext.refl _ | assumption | refine Ext.alloc ?_ _ | refine Ext.drew ?_ | refine Ext.drewN ?_ _ | refine Ext.setCell ?_ (by first | exact Nat.le_refl _ | (simp; done) | (dsimp only; omega) | (simp only [World.size_alloc, World.size_setCell]; omega)) _ | refine Ext.trans ?_ (by assumption))))).mono ?_
    rw [H0.out]
    rintro e w1 ⟨rfl, hb1⟩
    obtain ⟨n1a, n1b⟩ := HBX.out w1 (by repeat (first | exact Ext.refl _ | assumption | refine Ext.alloc ?_ _ | refine Ext.drew ?_ | refine Ext.drewN ?_ _ | refine Ext.setCell ?_ (by first | exact Nat.le_refl _ | (simp; done) | (dsimp only; omega) | (simp only [World.size_alloc, World.size_setCell]; omega)) _ | refine Ext.trans ?_ (by assumption)))
    go_wp2_with (fail)
    go_ret2
    rw [HQ2.out, HL2.out]
    exact ⟨_, rfl, World.ownsRow_nil _ _ _ _, (by repeat (first | exact Ext.refl _ | assumption | refine Ext.alloc ?_ _ | refine Ext.drew ?_ | refine Ext.drewN ?_ _ | refine Ext.setCell ?_ (by first | exact Nat.le_refl _ | (simp; done) | (dsimp only; omega) | (simp only [World.size_alloc, World.size_setCell]; omega)) _ | refine Ext.trans ?_ (by assumption)))⟩
  | true =>
    have H0 := hid h0
    clear h0
    cases h1 : okFg nL z n with
    | false =>
      have H1 := hid h1
      have HC := hid (show nfC nT zT nL zL z n a b = false by unfold nfC; simp [H0.out, H1.out])
      have HQ2 := hid (show Q = false by rw [HQQ.out]; unfold nfQ; rw [HC.out]; rfl)
      have HL2 := hid (show L = [] by rw [HLE.out]; unfold nfL nfQ; rw [HC.out]; rfl)
      clear h1
      go_enter Try.func12, Try.ntmps12
      go_wp2_with (fail)
      generalize hW0 : (w.alloc (.cells #[.slice aT nT cT, .slice aL nL cL] 27)) = w0
      rw [hW0] at e00 bp0 bp1 bgs
      clear hW0
      obtain ⟨bg, hbg⟩ : ∃ g, g = w.heap.size := ⟨_, rfl⟩
      rw [← hbg] at bp0 bp1 bgs ⊢
      have HBX := hid (fun (W : World) (hW : Ext w0 W) => show W.cell? ⟨bg, 0, none⟩ = some (.slice aT nT cT) ∧ W.cell? ⟨bg, 1, none⟩ = some (.slice aL nL cL) from ⟨by rw [(Ext.cells hW).1 _ _ bgs]; exact bp0, by rw [(Ext.cells hW).1 _ _ bgs]; exact bp1⟩)
      clear hbg bp0 bp1
      refine (neGood_any _ nT zT nL zL _ (HN.out.ext (by repeat (first | exact Ext.refl _ | assumption | refine Ext.alloc ?_ _ | refine Ext.drew ?_ | refine Ext.drewN ?_ _ | refine Ext.setCell ?_ (by first | exact Nat.le_refl _ | (simp; done) | (dsimp only; omega) | (simp only [World.size_alloc, World.size_setCell]; omega)) _ | refine Ext.trans ?_ (by assumption))))).mono ?_
      rw [H0.out]
      rintro e w1 ⟨rfl, hb1⟩
      obtain ⟨n1a, n1b⟩ := HBX.out w1 (by repeat (first | exact Ext.refl _ | assumption | refine Ext.alloc ?_ _ | refine Ext.drew ?_ | refine Ext.drewN ?_ _ | refine Ext.setCell ?_ (by first | exact Nat.le_refl _ | (simp; done) | (dsimp only; omega) | (simp only [World.size_alloc, World.size_setCell]; omega)) _ | refine Ext.trans ?_ (by assumption)))
      go_wp2_with (fail)
      refine (fgGood_any _ nT zT nL zL _ n z _ (HN.out.ext (by repeat (first | exact Ext.refl _ | assumption | refine Ext.alloc ?_ _ | refine Ext.drew ?_ | refine Ext.drewN ?_ _ | refine Ext.setCell ?_ (by first | exact Nat.le_refl _ | (simp; done) | (dsimp only; omega) | (simp only [World.size_alloc, World.size_setCell]; omega)) _ | refine Ext.trans ?_ (by assumption)))) (HF.out.ext (by repeat (first | exact Ext.refl _ | assumption | refine Ext.alloc ?_ _ | refine Ext.drew ?_ | refine Ext.drewN ?_ _ | refine Ext.setCell ?_ (by first | exact Nat.le_refl _ | (simp; done) | (dsimp only; omega) | (simp only [World.size_alloc, World.size_setCell]; omega)) _ | refine Ext.trans ?_ (by assumption))))).mono ?_
      rw [H1.out]
      rintro e w2 ⟨rfl, hb2⟩
      obtain ⟨n2a, n2b⟩ := HBX.out w2 (by repeat (first | exact Ext.refl _ | assumption | refine Ext.alloc ?_ _ | refine Ext.drew ?_ | refine Ext.drewN ?_ _ | refine Ext.setCell ?_ (by first | exact Nat.le_refl _ | (simp; done) | (dsimp only; omega) | (simp only [World.size_alloc, World.size_setCell]; omega)) _ | refine Ext.trans ?_ (by assumption)))
      clear n1a n1b
      go_wp2_with (fail)
      go_ret2
      rw [HQ2.out, HL2.out]
      exact ⟨_, rfl, World.ownsRow_nil _ _ _ _, (by repeat (first | exact Ext.refl _ | assumption | refine Ext.alloc ?_ _ | refine Ext.drew ?_ | refine Ext.drewN ?_ _ | refine Ext.setCell ?_ (by first | exact Nat.le_refl _ | (simp; done) | (dsimp only; omega) | (simp only [World.size_alloc, World.size_setCell]; omega)) _ | refine Ext.trans ?_ (by assumption)))⟩
    | true =>
      have H1 := hid h1
      clear h1
      cases h2 : inR a 0 9999 with
      | false =>
        have H2 := hid h2
        have HC := hid (show nfC nT zT nL zL z n a b = false by unfold nfC; simp [H0.out, H1.out, H2.out])
        have HQ2 := hid (show Q = false by rw [HQQ.out]; unfold nfQ; rw [HC.out]; rfl)
        have HL2 := hid (show L = [] by rw [HLE.out]; unfold nfL nfQ; rw [HC.out]; rfl)
        clear h2
        go_enter Try.func12, Try.ntmps12
        go_wp2_with (fail)
        generalize hW0 : (w.alloc (.cells #[.slice aT nT cT, .slice aL nL cL] 27)) = w0
        rw [hW0] at e00 bp0 bp1 bgs
        clear hW0
        obtain ⟨bg, hbg⟩ : ∃ g, g = w.heap.size := ⟨_, rfl⟩
        rw [← hbg] at bp0 bp1 bgs ⊢
        have HBX := hid (fun (W : World) (hW : Ext w0 W) => show W.cell? ⟨bg, 0, none⟩ = some (.slice aT nT cT) ∧ W.cell? ⟨bg, 1, none⟩ = some (.slice aL nL cL) from ⟨by rw [(Ext.cells hW).1 _ _ bgs]; exact bp0, by rw [(Ext.cells hW).1 _ _ bgs]; exact bp1⟩)
        clear hbg bp0 bp1
        refine (neGood_any _ nT zT nL zL _ (HN.out.ext (by repeat (first | exact Ext.refl _ | assumption | refine Ext.alloc ?_ _ | refine Ext.drew ?_ | refine Ext.drewN ?_ _ | refine Ext.setCell ?_ (by first | exact Nat.le_refl _ | (simp; done) | (dsimp only; omega) | (simp only [World.size_alloc, World.size_setCell]; omega)) _ | refine Ext.trans ?_ (by assumption))))).mono ?_
        rw [H0.out]
        rintro e w1 ⟨rfl, hb1⟩
        obtain ⟨n1a, n1b⟩ := HBX.out w1 (by repeat (first | exact Ext.refl _ | assumption | refine Ext.alloc ?_ _ | refine Ext.drew ?_ | refine Ext.drewN ?_ _ | refine Ext.setCell ?_ (by first | exact Nat.le_refl _ | (simp; done) | (dsimp only; omega) | (simp only [World.size_alloc, World.size_setCell]; omega)) _ | refine Ext.trans ?_ (by assumption)))
        go_wp2_with (fail)
        refine (fgGood_any _ nT zT nL zL _ n z _ (HN.out.ext (by repeat (first | exact Ext.refl _ | assumption | refine Ext.alloc ?_ _ | refine Ext.drew ?_ | refine Ext.drewN ?_ _ | refine Ext.setCell ?_ (by first | exact Nat.le_refl _ | (simp; done) | (dsimp only; omega) | (simp only [World.size_alloc, World.size_setCell]; omega)) _ | refine Ext.trans ?_ (by assumption)))) (HF.out.ext (by repeat (first | exact Ext.refl _ | assumption | refine Ext.alloc ?_ _ | refine Ext.drew ?_ | refine Ext.drewN ?_ _ | refine Ext.setCell ?_ (by first | exact Nat.le_refl _ | (simp; done) | (dsimp only; omega) | (simp only [World.size_alloc, World.size_setCell]; omega)) _ | refine Ext.trans ?_ (by assumption))))).mono ?_
        rw [H1.out]
        rintro e w2 ⟨rfl, hb2⟩
        obtain ⟨n2a, n2b⟩ := HBX.out w2 (by repeat (first | exact Ext.refl _ | assumption | refine Ext.alloc ?_ _ | refine Ext.drew ?_ | refine Ext.drewN ?_ _ | refine Ext.setCell ?_ (by first | exact Nat.le_refl _ | (simp; done) | (dsimp only; omega) | (simp only [World.size_alloc, World.size_setCell]; omega)) _ | refine Ext.trans ?_ (by assumption)))
        clear n1a n1b
        go_wp2_with (fail)
        refine (l1In_any _ _ _ _).mono ?_
        rw [H2.out]
        rintro e w' ⟨rfl, rfl⟩
        go_wp2_with (fail)
        go_ret2
        rw [HQ2.out, HL2.out]
        exact ⟨_, rfl, World.ownsRow_nil _ _ _ _, (by repeat (first | exact Ext.refl _ | assumption | refine Ext.alloc ?_ _ | refine Ext.drew ?_ | refine Ext.drewN ?_ _ | refine Ext.setCell ?_ (by first | exact Nat.le_refl _ | (simp; done) | (dsimp only; omega) | (simp only [World.size_alloc, World.size_setCell]; omega)) _ | refine Ext.trans ?_ (by assumption)))⟩
      | true =>
        have H2 := hid h2
        clear h2
        cases h3 : inR b (a + 1) 10000 with
        | false =>
          have H3 := hid h3
          have HC := hid (show nfC nT zT nL zL z n a b = false by unfold nfC; simp [H0.out, H1.out, H2.out, H3.out])
          have HQ2 := hid (show Q = false by rw [HQQ.out]; unfold nfQ; rw [HC.out]; rfl)
          have HL2 := hid (show L = [] by rw [HLE.out]; unfold nfL nfQ; rw [HC.out]; rfl)
          clear h3
          have hwa : IntKind.i64.wrap (a + 1) = a + 1 := by have := inR_iff.1 H2.out; exact IntWalk.i64_in _ (by omega)
          go_enter Try.func12, Try.ntmps12
          go_wp2_with (fail)
          generalize hW0 : (w.alloc (.cells #[.slice aT nT cT, .slice aL nL cL] 27)) = w0
          rw [hW0] at e00 bp0 bp1 bgs
          clear hW0
          obtain ⟨bg, hbg⟩ : ∃ g, g = w.heap.size := ⟨_, rfl⟩
          rw [← hbg] at bp0 bp1 bgs ⊢
          have HBX := hid (fun (W : World) (hW : Ext w0 W) => show W.cell? ⟨bg, 0, none⟩ = some (.slice aT nT cT) ∧ W.cell? ⟨bg, 1, none⟩ = some (.slice aL nL cL) from ⟨by rw [(Ext.cells hW).1 _ _ bgs]; exact bp0, by rw [(Ext.cells hW).1 _ _ bgs]; exact bp1⟩)
          clear hbg bp0 bp1
          refine (neGood_any _ nT zT nL zL _ (HN.out.ext (by repeat (first | exact Ext.refl _ | assumption | refine Ext.alloc ?_ _ | refine Ext.drew ?_ | refine Ext.drewN ?_ _ | refine Ext.setCell ?_ (by first | exact Nat.le_refl _ | (simp; done) | (dsimp only; omega) | (simp only [World.size_alloc, World.size_setCell]; omega)) _ | refine Ext.trans ?_ (by assumption))))).mono ?_
          rw [H0.out]
          rintro e w1 ⟨rfl, hb1⟩
          obtain ⟨n1a, n1b⟩ := HBX.out w1 (by repeat (first | exact Ext.refl _ | assumption | refine Ext.alloc ?_ _ | refine Ext.drew ?_ | refine Ext.drewN ?_ _ | refine Ext.setCell ?_ (by first | exact Nat.le_refl _ | (simp; done) | (dsimp only; omega) | (simp only [World.size_alloc, World.size_setCell]; omega)) _ | refine Ext.trans ?_ (by assumption)))
          go_wp2_with (fail)
          refine (fgGood_any _ nT zT nL zL _ n z _ (HN.out.ext (by repeat (first | exact Ext.refl _ | assumption | refine Ext.alloc ?_ _ | refine Ext.drew ?_ | refine Ext.drewN ?_ _ | refine Ext.setCell ?_ (by first | exact Nat.le_refl _ | (simp; done) | (dsimp only; omega) | (simp only [World.size_alloc, World.size_setCell]; omega)) _ | refine Ext.trans ?_ (by assumption)))) (HF.out.ext (by repeat (first | exact Ext.refl _ | assumption | refine Ext.alloc ?_ _ | refine Ext.drew ?_ | refine Ext.drewN ?_ _ | refine Ext.setCell ?_ (by first | exact Nat.le_refl _ | (simp; done) | (dsimp only; omega) | (simp only [World.size_alloc, World.size_setCell]; omega)) _ | refine Ext.trans ?_ (by assumption))))).mono ?_
          rw [H1.out]
          rintro e w2 ⟨rfl, hb2⟩
          obtain ⟨n2a, n2b⟩ := HBX.out w2 (by repeat (first | exact Ext.refl _ | assumption | refine Ext.alloc ?_ _ | refine Ext.drew ?_ | refine Ext.drewN ?_ _ | refine Ext.setCell ?_ (by first | exact Nat.le_refl _ | (simp; done) | (dsimp only; omega) | (simp only [World.size_alloc, World.size_setCell]; omega)) _ | refine Ext.trans ?_ (by assumption)))
          clear n1a n1b
          go_wp2_with (fail)
          refine (l1In_any _ _ _ _).mono ?_
          rw [H2.out]
          rintro e w' ⟨rfl, rfl⟩
          go_wp2_with (fail)
          refine (l1In_any _ _ _ _).mono ?_
          rw [H3.out]
          rintro e w' ⟨rfl, rfl⟩
          go_wp2_with (fail)
          go_ret2
          rw [HQ2.out, HL2.out]
          exact ⟨_, rfl, World.ownsRow_nil _ _ _ _, (by repeat (first | exact Ext.refl _ | assumption | refine Ext.alloc ?_ _ | refine Ext.drew ?_ | refine Ext.drewN ?_ _ | refine Ext.setCell ?_ (by first | exact Nat.le_refl _ | (simp; done) | (dsimp only; omega) | (simp only [World.size_alloc, World.size_setCell]; omega)) _ | refine Ext.trans ?_ (by assumption)))⟩
        | true =>
          have H3 := hid h3
          clear h3
          have HC := hid (show nfC nT zT nL zL z n a b = true by unfold nfC; simp [H0.out, H1.out, H2.out, H3.out])
          obtain ⟨ho1, ho2, ⟨ha1, ha2⟩, hab1, hab2⟩ := nfC_iff HC.out
          have hn60 := (okFg_iff ho2).1
          have hnL := (okNet_iff ho1).2.1
          have hwa : IntKind.i64.wrap (a + 1) = a + 1 := IntWalk.i64_in _ (by omega)
          clear ho1 ho2
          go_enter Try.func12, Try.ntmps12
          go_wp2_with (fail)
          generalize hW0 : (w.alloc (.cells #[.slice aT nT cT, .slice aL nL cL] 27)) = w0
          rw [hW0] at e00 bp0 bp1 bgs
          clear hW0
          obtain ⟨bg, hbg⟩ : ∃ g, g = w.heap.size := ⟨_, rfl⟩
          rw [← hbg] at bp0 bp1 bgs ⊢
          have HBX := hid (fun (W : World) (hW : Ext w0 W) => show W.cell? ⟨bg, 0, none⟩ = some (.slice aT nT cT) ∧ W.cell? ⟨bg, 1, none⟩ = some (.slice aL nL cL) from ⟨by rw [(Ext.cells hW).1 _ _ bgs]; exact bp0, by rw [(Ext.cells hW).1 _ _ bgs]; exact bp1⟩)
          clear hbg bp0 bp1
          refine (neGood_any _ nT zT nL zL _ (HN.out.ext (by repeat (first | exact Ext.refl _ | assumption | refine Ext.alloc ?_ _ | refine Ext.drew ?_ | refine Ext.drewN ?_ _ | refine Ext.setCell ?_ (by first | exact Nat.le_refl _ | (simp; done) | (dsimp only; omega) | (simp only [World.size_alloc, World.size_setCell]; omega)) _ | refine Ext.trans ?_ (by assumption))))).mono ?_
          rw [H0.out]
          rintro e w1 ⟨rfl, hb1⟩
          obtain ⟨n1a, n1b⟩ := HBX.out w1 (by repeat (first | exact Ext.refl _ | assumption | refine Ext.alloc ?_ _ | refine Ext.drew ?_ | refine Ext.drewN ?_ _ | refine Ext.setCell ?_ (by first | exact Nat.le_refl _ | (simp; done) | (dsimp only; omega) | (simp only [World.size_alloc, World.size_setCell]; omega)) _ | refine Ext.trans ?_ (by assumption)))
          go_wp2_with (fail)
          refine (fgGood_any _ nT zT nL zL _ n z _ (HN.out.ext (by repeat (first | exact Ext.refl _ | assumption | refine Ext.alloc ?_ _ | refine Ext.drew ?_ | refine Ext.drewN ?_ _ | refine Ext.setCell ?_ (by first | exact Nat.le_refl _ | (simp; done) | (dsimp only; omega) | (simp only [World.size_alloc, World.size_setCell]; omega)) _ | refine Ext.trans ?_ (by assumption)))) (HF.out.ext (by repeat (first | exact Ext.refl _ | assumption | refine Ext.alloc ?_ _ | refine Ext.drew ?_ | refine Ext.drewN ?_ _ | refine Ext.setCell ?_ (by first | exact Nat.le_refl _ | (simp; done) | (dsimp only; omega) | (simp only [World.size_alloc, World.size_setCell]; omega)) _ | refine Ext.trans ?_ (by assumption))))).mono ?_
          rw [H1.out]
          rintro e w2 ⟨rfl, hb2⟩
          obtain ⟨n2a, n2b⟩ := HBX.out w2 (by repeat (first | exact Ext.refl _ | assumption | refine Ext.alloc ?_ _ | refine Ext.drew ?_ | refine Ext.drewN ?_ _ | refine Ext.setCell ?_ (by first | exact Nat.le_refl _ | (simp; done) | (dsimp only; omega) | (simp only [World.size_alloc, World.size_setCell]; omega)) _ | refine Ext.trans ?_ (by assumption)))
          clear n1a n1b
          go_wp2_with (fail)
          refine (l1In_any _ _ _ _).mono ?_
          rw [H2.out]
          rintro e w' ⟨rfl, rfl⟩
          go_wp2_with (fail)
          refine (l1In_any _ _ _ _).mono ?_
          rw [H3.out]
          rintro e w' ⟨rfl, rfl⟩
          have hE02 : Ext w0 w2 := hb1.trans hb2
          have hE2 : Ext w w2 := e00.trans hE02
          go_wp2_with (first | (at_builtin; go_loud (refine wpList_src3 rfl (.tmp 33) (.tmp 34) 28 rfl w2.heap.size 78 i0 _ Try.underlying28 hi0 hz0 hz1 hz2 rfl _ 0 [] rfl (row_empty3 _ _) _ n z rfl (HF.out.ext (by repeat (first | exact Ext.refl _ | assumption | refine Ext.alloc ?_ _ | refine Ext.drew ?_ | refine Ext.drewN ?_ _ | refine Ext.setCell ?_ (by first | exact Nat.le_refl _ | (simp; done) | (dsimp only; omega) | (simp only [World.size_alloc, World.size_setCell]; omega)) _ | refine Ext.trans ?_ (by assumption)))) (by omega) (by simp) ?_; intro v3 w3 hr3' hg3; rw [Nat.zero_add, List.nil_append] at hr3'; have hg3' : (w2.alloc (.cells #[] 78)).grownBy w3 (some w2.heap.size) := hg3; have hE3 : Ext w w3 := Ext.of_grownAt ((by repeat (first | exact Ext.refl _ | assumption | refine Ext.alloc ?_ _ | refine Ext.drew ?_ | refine Ext.drewN ?_ _ | refine Ext.setCell ?_ (by first | exact Nat.le_refl _ | (simp; done) | (dsimp only; omega) | (simp only [World.size_alloc, World.size_setCell]; omega)) _ | refine Ext.trans ?_ (by assumption))) : Ext w (w2.alloc (.cells #[] 78))) hg3' (fun q hq => (by have := hE2.size; simp at hq; omega)); have hE03 : Ext w0 w3 := Ext.of_grownAt ((by repeat (first | exact Ext.refl _ | assumption | refine Ext.alloc ?_ _ | refine Ext.drew ?_ | refine Ext.drewN ?_ _ | refine Ext.setCell ?_ (by first | exact Nat.le_refl _ | (simp; done) | (dsimp only; omega) | (simp only [World.size_alloc, World.size_setCell]; omega)) _ | refine Ext.trans ?_ (by assumption))) : Ext w0 (w2.alloc (.cells #[] 78))) hg3' (fun q hq => (by have := hE02.size; simp at hq; omega)); have hr3 := row_mono hr3' (show w.heap.size ≤ w2.heap.size from hE2.size); clear hg3 hg3'; obtain ⟨n3a, n3b⟩ := HBX.out w3 hE03)))
          have hrz : w3.ownsRow w.heap.size 78 3 v3 (nfT z n a b 0).length ((flat (nfT z n a b 0)).map (Value.int .i64)) := by
            rw [nfT, tri_length, flat_tri hl]
            exact hr3
          have N3 := HBX.out w3 hE03
          go_wp2_with (fail)
          go_loopw [10, 39] (fun q10 i wr => ∃ k : Nat, k ≤ nL ∧ i = .int .i64 (k : Int) ∧ (∀ j, j < k → (nfT z n a b (j + 1)).length ≤ 60) ∧ wr.ownsRow w.heap.size 78 3 q10 (nfT z n a b k).length ((flat (nfT z n a b k)).map (Value.int .i64)) ∧ Ext w3 wr)
            (fun _ i _ => nL - (intOf i).toNat)
          case atStart => exact ⟨0, Nat.zero_le _, rfl, fun j hj => absurd hj (by omega), hrz, Ext.refl _⟩
          case round =>
            obtain ⟨k, hk, rfl, hle, hrow, hE⟩ := hrel
            clear hrz hr3 N3
            have HLE2 := hid hle
            clear hle
            have hlk := nfT_len H1.out HLE2.out k (Nat.le_refl _)
            have hk0 : (0 : Int) ≤ (k : Int) := Int.natCast_nonneg _
            obtain ⟨n3a, n3b⟩ := HBX.out wr (hE03.trans hE)
            have hE0 : Ext w wr := hE3.trans hE
            by_cases hlt : k < nL
            · have tl : decide ((k : Int) < (nL : Int)) = true := by simpa using hlt
              obtain ⟨hps, hww⟩ := nfT_inv H1.out (a := a) (b := b) ha1 (by omega) hab2 k (by omega) (fun i hi => nfT_len H1.out HLE2.out i (by omega))
              have HOK := hid (show okFg nL (flat (nfT z n a b k)) (nfT z n a b k).length = true by rw [okFg_flat hps hww]; exact decide_eq_true hlk)
              have HIR := hid (row_ints hrow (by unfold maxLen; omega) (flat_wf hww (by omega)))
              have HX : Hid (wfT nL ((k : Int), a, b)) := hid ⟨⟨hk0, by simp only []; omega⟩, ha1, (by simp only []; omega), hab2⟩
              have HNX := hid (show addR (flat (nfT z n a b k)) (nfT z n a b k).length ((k : Int), a, b) = nfT z n a b (k + 1) from rfl)
              obtain ⟨aq, cq, rfl, _, _, _⟩ := row_shape hrow
              clear hps hww hrow
              go_wp2_with (fail)
              refine (fgAdd_any _ _ _ _ _ _ _ nL (HIR.out.ext (by repeat (first | exact Ext.refl _ | assumption | refine Ext.alloc ?_ _ | refine Ext.drew ?_ | refine Ext.drewN ?_ _ | refine Ext.setCell ?_ (by first | exact Nat.le_refl _ | (simp; done) | (dsimp only; omega) | (simp only [World.size_alloc, World.size_setCell]; omega)) _ | refine Ext.trans ?_ (by assumption)))) HOK HX (by omega)).mono ?_
              rintro e w5 ⟨v5, rfl, hr5, hb5⟩
              rw [HNX.out] at hr5
              have hr6 := row_mono hr5 (show w.heap.size ≤ wr.heap.size from hE0.size)
              obtain ⟨NL, hNL⟩ : ∃ x, x = (nfT z n a b (k + 1)).length := ⟨_, rfl⟩
              obtain ⟨a5, c5, rfl, _, _, _⟩ := row_shape hr6
              rw [← hNL] at hr6 ⊢
              have HR6 := hid hr6
              clear hr5 hr6
              by_cases h60 : 60 < NL
              · have t60 : decide ((60 : Int) < (NL : Int)) = true := by simp; omega
                rw [hNL] at h60
                have HB := hid (show nfB z n a b nL = false by unfold nfB; exact allB_f hlt (by simp; omega))
                have HQ2 := hid (show Q = false by rw [HQQ.out]; unfold nfQ; rw [HC.out, HB.out]; rfl)
                have HL2 := hid (show L = [] by rw [HLE.out]; unfold nfL nfQ; rw [HC.out, HB.out]; rfl)
                clear hNL h60
                go_wp2_with (fail)
                go_ret2
                rw [HQ2.out, HL2.out]
                exact ⟨_, rfl, World.ownsRow_nil _ _ _ _, hE0.trans hb5⟩
              · have t60 : decide ((60 : Int) < (NL : Int)) = false := by simp; omega
                have HNL := hid hNL
                clear hNL
                go_wp2_with (fail)
                go_roundw
                case rel =>
                  refine ⟨k + 1, by omega, by go_num, fun j hj => ?_, ?_, hE.trans hb5⟩
                  · by_cases e : j = k
                    · subst e
                      rw [← HNL.out]
                      omega
                    · exact HLE2.out j (by omega)
                  · have := HR6.out
                    rw [HNL.out] at this ⊢
                    exact this
                case measure => simp [intOf]; omega
            · obtain rfl : k = nL := by omega
              have tl : decide ((k : Int) < (k : Int)) = false := by simp
              have HB := hid (show nfB z n a b k = true from allB_t (fun j hj => by simpa using HLE2.out j hj))
              have HQ2 := hid (show Q = true by rw [HQQ.out]; unfold nfQ; rw [HC.out, HB.out]; rfl)
              have HL2 := hid (show L = flat (nfT z n a b k) by rw [HLE.out]; unfold nfL nfQ; rw [HC.out, HB.out]; rfl)
              go_wp2_with (fail)
              go_ret2
              rw [HQ2.out, HL2.out, show (flat (nfT z n a b k)).length / 3 = (nfT z n a b k).length by rw [flat_len]; omega]
              exact ⟨_, rfl, hrow, hE0⟩

set_option maxRecDepth 100000 in
set_option maxHeartbeats 4000000 in
theorem iNightFogs_any (v : Value) (nT : Nat) (zT : List Int) (nL : Nat) (zL : List Int) (u : Value) (n : Nat) (z : List Int) (a b : Int) (w : World) (hN : NetRow w v nT zT nL zL) (hF : IntRow .i64 3 w u n z) :
    Calls Try.prog 11 #[v, u, .int .i64 a, .int .i64 b] w fun e w' => ∃ v', e = .returned (.tuple #[v', .bool (nfQ nT zT nL zL z n a b)]) ∧ w'.ownsRow w.heap.size 78 3 v' ((nfL nT zT nL zL z n a b).length / 3) ((nfL nT zT nL zL z n a b).map (Value.int .i64)) ∧ Ext w w' := by
  obtain ⟨i0, hi0, hz0, hz1, hz2⟩ := info_parts info_Fog
  have HN := hid hN
  have HF := hid hF
  obtain ⟨vT, vL, rfl, hT, hL⟩ := hN
  obtain ⟨_, _, _, aT, cT, rfl, _, _, _⟩ := hT
  obtain ⟨_, hmL, _, aL, cL, rfl, _, _, _⟩ := hL
  obtain ⟨hl, hm, hwf, ad, c, rfl, hnc, hcm, hcell⟩ := hF
  have HW := hid hwf
  clear hwf hcell
  have hn9 : n ≤ 9223372036854775807 := by unfold maxLen at hm; omega
  have e00 : Ext w (w.alloc (.cells #[.slice aT nT cT, .slice aL nL cL] 27)) := (Ext.refl w).alloc _
  have bp0 : (w.alloc (.cells #[.slice aT nT cT, .slice aL nL cL] 27)).cell? ⟨w.heap.size, 0, none⟩ = some (.slice aT nT cT) := by simp [go_sem]
  have bp1 : (w.alloc (.cells #[.slice aT nT cT, .slice aL nL cL] 27)).cell? ⟨w.heap.size, 1, none⟩ = some (.slice aL nL cL) := by simp [go_sem]
  have bgs : w.heap.size < (w.alloc (.cells #[.slice aT nT cT, .slice aL nL cL] 27)).heap.size := by simp
  obtain ⟨Q, hQ⟩ : ∃ q, q = nfQ nT zT nL zL z n a b := ⟨_, rfl⟩
  obtain ⟨L, hLe⟩ : ∃ l, l = nfL nT zT nL zL z n a b := ⟨_, rfl⟩
  rw [← hQ, ← hLe]
  have HLE := hid hLe
  have HQQ := hid hQ
  clear hQ hLe
  cases h0 : okNet nT zT nL zL with
  | false =>
    have H0 := hid h0
    have HC := hid (show nfC nT zT nL zL z n a b = false by unfold nfC; simp [H0.out])
    have HQ2 := hid (show Q = false by rw [HQQ.out]; unfold nfQ; rw [HC.out]; rfl)
    have HL2 := hid (show L = [] by rw [HLE.out]; unfold nfL nfQ; rw [HC.out]; rfl)
    clear h0
    go_enter Try.func11, Try.ntmps11
    go_wp2_with (fail)
    generalize hW0 : (w.alloc (.cells #[.slice aT nT cT, .slice aL nL cL] 27)) = w0
    rw [hW0] at e00 bp0 bp1 bgs
    clear hW0
    obtain ⟨bg, hbg⟩ : ∃ g, g = w.heap.size := ⟨_, rfl⟩
    rw [← hbg] at bp0 bp1 bgs ⊢
    have HBX := hid (fun (W : World) (hW : Ext w0 W) => show W.cell? ⟨bg, 0, none⟩ = some (.slice aT nT cT) ∧ W.cell? ⟨bg, 1, none⟩ = some (.slice aL nL cL) from ⟨by rw [(Ext.cells hW).1 _ _ bgs]; exact bp0, by rw [(Ext.cells hW).1 _ _ bgs]; exact bp1⟩)
    clear hbg bp0 bp1
    refine (iIsNet_any _ nT zT nL zL _ (HN.out.ext (by repeat (first | exact Ext.refl _ | assumption | refine Ext.alloc ?_ _ | refine Ext.drew ?_ | refine Ext.drewN ?_ _ | refine Ext.setCell ?_ (by first | exact Nat.le_refl _ | (simp; done) | (dsimp only; omega) | (simp only [World.size_alloc, World.size_setCell]; omega)) _ | refine Ext.trans ?_ (by assumption))))).mono ?_
    rw [H0.out]
    rintro e w1 ⟨rfl, hb1⟩
    obtain ⟨n1a, n1b⟩ := HBX.out w1 (by repeat (first | exact Ext.refl _ | assumption | refine Ext.alloc ?_ _ | refine Ext.drew ?_ | refine Ext.drewN ?_ _ | refine Ext.setCell ?_ (by first | exact Nat.le_refl _ | (simp; done) | (dsimp only; omega) | (simp only [World.size_alloc, World.size_setCell]; omega)) _ | refine Ext.trans ?_ (by assumption)))
    go_wp2_with (fail)
    go_ret2
    rw [HQ2.out, HL2.out]
    exact ⟨_, rfl, World.ownsRow_nil _ _ _ _, (by repeat (first | exact Ext.refl _ | assumption | refine Ext.alloc ?_ _ | refine Ext.drew ?_ | refine Ext.drewN ?_ _ | refine Ext.setCell ?_ (by first | exact Nat.le_refl _ | (simp; done) | (dsimp only; omega) | (simp only [World.size_alloc, World.size_setCell]; omega)) _ | refine Ext.trans ?_ (by assumption)))⟩
  | true =>
    have H0 := hid h0
    clear h0
    cases h1 : okFg nL z n with
    | false =>
      have H1 := hid h1
      have HC := hid (show nfC nT zT nL zL z n a b = false by unfold nfC; simp [H0.out, H1.out])
      have HQ2 := hid (show Q = false by rw [HQQ.out]; unfold nfQ; rw [HC.out]; rfl)
      have HL2 := hid (show L = [] by rw [HLE.out]; unfold nfL nfQ; rw [HC.out]; rfl)
      clear h1
      go_enter Try.func11, Try.ntmps11
      go_wp2_with (fail)
      generalize hW0 : (w.alloc (.cells #[.slice aT nT cT, .slice aL nL cL] 27)) = w0
      rw [hW0] at e00 bp0 bp1 bgs
      clear hW0
      obtain ⟨bg, hbg⟩ : ∃ g, g = w.heap.size := ⟨_, rfl⟩
      rw [← hbg] at bp0 bp1 bgs ⊢
      have HBX := hid (fun (W : World) (hW : Ext w0 W) => show W.cell? ⟨bg, 0, none⟩ = some (.slice aT nT cT) ∧ W.cell? ⟨bg, 1, none⟩ = some (.slice aL nL cL) from ⟨by rw [(Ext.cells hW).1 _ _ bgs]; exact bp0, by rw [(Ext.cells hW).1 _ _ bgs]; exact bp1⟩)
      clear hbg bp0 bp1
      refine (iIsNet_any _ nT zT nL zL _ (HN.out.ext (by repeat (first | exact Ext.refl _ | assumption | refine Ext.alloc ?_ _ | refine Ext.drew ?_ | refine Ext.drewN ?_ _ | refine Ext.setCell ?_ (by first | exact Nat.le_refl _ | (simp; done) | (dsimp only; omega) | (simp only [World.size_alloc, World.size_setCell]; omega)) _ | refine Ext.trans ?_ (by assumption))))).mono ?_
      rw [H0.out]
      rintro e w1 ⟨rfl, hb1⟩
      obtain ⟨n1a, n1b⟩ := HBX.out w1 (by repeat (first | exact Ext.refl _ | assumption | refine Ext.alloc ?_ _ | refine Ext.drew ?_ | refine Ext.drewN ?_ _ | refine Ext.setCell ?_ (by first | exact Nat.le_refl _ | (simp; done) | (dsimp only; omega) | (simp only [World.size_alloc, World.size_setCell]; omega)) _ | refine Ext.trans ?_ (by assumption)))
      go_wp2_with (fail)
      refine (areFogs_any _ nT zT nL zL _ n z _ (HN.out.ext (by repeat (first | exact Ext.refl _ | assumption | refine Ext.alloc ?_ _ | refine Ext.drew ?_ | refine Ext.drewN ?_ _ | refine Ext.setCell ?_ (by first | exact Nat.le_refl _ | (simp; done) | (dsimp only; omega) | (simp only [World.size_alloc, World.size_setCell]; omega)) _ | refine Ext.trans ?_ (by assumption)))) (HF.out.ext (by repeat (first | exact Ext.refl _ | assumption | refine Ext.alloc ?_ _ | refine Ext.drew ?_ | refine Ext.drewN ?_ _ | refine Ext.setCell ?_ (by first | exact Nat.le_refl _ | (simp; done) | (dsimp only; omega) | (simp only [World.size_alloc, World.size_setCell]; omega)) _ | refine Ext.trans ?_ (by assumption))))).mono ?_
      rw [H1.out]
      rintro e w2 ⟨rfl, hb2⟩
      obtain ⟨n2a, n2b⟩ := HBX.out w2 (by repeat (first | exact Ext.refl _ | assumption | refine Ext.alloc ?_ _ | refine Ext.drew ?_ | refine Ext.drewN ?_ _ | refine Ext.setCell ?_ (by first | exact Nat.le_refl _ | (simp; done) | (dsimp only; omega) | (simp only [World.size_alloc, World.size_setCell]; omega)) _ | refine Ext.trans ?_ (by assumption)))
      clear n1a n1b
      go_wp2_with (fail)
      go_ret2
      rw [HQ2.out, HL2.out]
      exact ⟨_, rfl, World.ownsRow_nil _ _ _ _, (by repeat (first | exact Ext.refl _ | assumption | refine Ext.alloc ?_ _ | refine Ext.drew ?_ | refine Ext.drewN ?_ _ | refine Ext.setCell ?_ (by first | exact Nat.le_refl _ | (simp; done) | (dsimp only; omega) | (simp only [World.size_alloc, World.size_setCell]; omega)) _ | refine Ext.trans ?_ (by assumption)))⟩
    | true =>
      have H1 := hid h1
      clear h1
      cases h2 : inR a 0 9999 with
      | false =>
        have H2 := hid h2
        have HC := hid (show nfC nT zT nL zL z n a b = false by unfold nfC; simp [H0.out, H1.out, H2.out])
        have HQ2 := hid (show Q = false by rw [HQQ.out]; unfold nfQ; rw [HC.out]; rfl)
        have HL2 := hid (show L = [] by rw [HLE.out]; unfold nfL nfQ; rw [HC.out]; rfl)
        clear h2
        go_enter Try.func11, Try.ntmps11
        go_wp2_with (fail)
        generalize hW0 : (w.alloc (.cells #[.slice aT nT cT, .slice aL nL cL] 27)) = w0
        rw [hW0] at e00 bp0 bp1 bgs
        clear hW0
        obtain ⟨bg, hbg⟩ : ∃ g, g = w.heap.size := ⟨_, rfl⟩
        rw [← hbg] at bp0 bp1 bgs ⊢
        have HBX := hid (fun (W : World) (hW : Ext w0 W) => show W.cell? ⟨bg, 0, none⟩ = some (.slice aT nT cT) ∧ W.cell? ⟨bg, 1, none⟩ = some (.slice aL nL cL) from ⟨by rw [(Ext.cells hW).1 _ _ bgs]; exact bp0, by rw [(Ext.cells hW).1 _ _ bgs]; exact bp1⟩)
        clear hbg bp0 bp1
        refine (iIsNet_any _ nT zT nL zL _ (HN.out.ext (by repeat (first | exact Ext.refl _ | assumption | refine Ext.alloc ?_ _ | refine Ext.drew ?_ | refine Ext.drewN ?_ _ | refine Ext.setCell ?_ (by first | exact Nat.le_refl _ | (simp; done) | (dsimp only; omega) | (simp only [World.size_alloc, World.size_setCell]; omega)) _ | refine Ext.trans ?_ (by assumption))))).mono ?_
        rw [H0.out]
        rintro e w1 ⟨rfl, hb1⟩
        obtain ⟨n1a, n1b⟩ := HBX.out w1 (by repeat (first | exact Ext.refl _ | assumption | refine Ext.alloc ?_ _ | refine Ext.drew ?_ | refine Ext.drewN ?_ _ | refine Ext.setCell ?_ (by first | exact Nat.le_refl _ | (simp; done) | (dsimp only; omega) | (simp only [World.size_alloc, World.size_setCell]; omega)) _ | refine Ext.trans ?_ (by assumption)))
        go_wp2_with (fail)
        refine (areFogs_any _ nT zT nL zL _ n z _ (HN.out.ext (by repeat (first | exact Ext.refl _ | assumption | refine Ext.alloc ?_ _ | refine Ext.drew ?_ | refine Ext.drewN ?_ _ | refine Ext.setCell ?_ (by first | exact Nat.le_refl _ | (simp; done) | (dsimp only; omega) | (simp only [World.size_alloc, World.size_setCell]; omega)) _ | refine Ext.trans ?_ (by assumption)))) (HF.out.ext (by repeat (first | exact Ext.refl _ | assumption | refine Ext.alloc ?_ _ | refine Ext.drew ?_ | refine Ext.drewN ?_ _ | refine Ext.setCell ?_ (by first | exact Nat.le_refl _ | (simp; done) | (dsimp only; omega) | (simp only [World.size_alloc, World.size_setCell]; omega)) _ | refine Ext.trans ?_ (by assumption))))).mono ?_
        rw [H1.out]
        rintro e w2 ⟨rfl, hb2⟩
        obtain ⟨n2a, n2b⟩ := HBX.out w2 (by repeat (first | exact Ext.refl _ | assumption | refine Ext.alloc ?_ _ | refine Ext.drew ?_ | refine Ext.drewN ?_ _ | refine Ext.setCell ?_ (by first | exact Nat.le_refl _ | (simp; done) | (dsimp only; omega) | (simp only [World.size_alloc, World.size_setCell]; omega)) _ | refine Ext.trans ?_ (by assumption)))
        clear n1a n1b
        go_wp2_with (fail)
        refine (within_any _ _ _ _).mono ?_
        rw [H2.out]
        rintro e w' ⟨rfl, rfl⟩
        go_wp2_with (fail)
        go_ret2
        rw [HQ2.out, HL2.out]
        exact ⟨_, rfl, World.ownsRow_nil _ _ _ _, (by repeat (first | exact Ext.refl _ | assumption | refine Ext.alloc ?_ _ | refine Ext.drew ?_ | refine Ext.drewN ?_ _ | refine Ext.setCell ?_ (by first | exact Nat.le_refl _ | (simp; done) | (dsimp only; omega) | (simp only [World.size_alloc, World.size_setCell]; omega)) _ | refine Ext.trans ?_ (by assumption)))⟩
      | true =>
        have H2 := hid h2
        clear h2
        cases h3 : inR b (a + 1) 10000 with
        | false =>
          have H3 := hid h3
          have HC := hid (show nfC nT zT nL zL z n a b = false by unfold nfC; simp [H0.out, H1.out, H2.out, H3.out])
          have HQ2 := hid (show Q = false by rw [HQQ.out]; unfold nfQ; rw [HC.out]; rfl)
          have HL2 := hid (show L = [] by rw [HLE.out]; unfold nfL nfQ; rw [HC.out]; rfl)
          clear h3
          have hwa : IntKind.i64.wrap (a + 1) = a + 1 := by have := inR_iff.1 H2.out; exact IntWalk.i64_in _ (by omega)
          go_enter Try.func11, Try.ntmps11
          go_wp2_with (fail)
          generalize hW0 : (w.alloc (.cells #[.slice aT nT cT, .slice aL nL cL] 27)) = w0
          rw [hW0] at e00 bp0 bp1 bgs
          clear hW0
          obtain ⟨bg, hbg⟩ : ∃ g, g = w.heap.size := ⟨_, rfl⟩
          rw [← hbg] at bp0 bp1 bgs ⊢
          have HBX := hid (fun (W : World) (hW : Ext w0 W) => show W.cell? ⟨bg, 0, none⟩ = some (.slice aT nT cT) ∧ W.cell? ⟨bg, 1, none⟩ = some (.slice aL nL cL) from ⟨by rw [(Ext.cells hW).1 _ _ bgs]; exact bp0, by rw [(Ext.cells hW).1 _ _ bgs]; exact bp1⟩)
          clear hbg bp0 bp1
          refine (iIsNet_any _ nT zT nL zL _ (HN.out.ext (by repeat (first | exact Ext.refl _ | assumption | refine Ext.alloc ?_ _ | refine Ext.drew ?_ | refine Ext.drewN ?_ _ | refine Ext.setCell ?_ (by first | exact Nat.le_refl _ | (simp; done) | (dsimp only; omega) | (simp only [World.size_alloc, World.size_setCell]; omega)) _ | refine Ext.trans ?_ (by assumption))))).mono ?_
          rw [H0.out]
          rintro e w1 ⟨rfl, hb1⟩
          obtain ⟨n1a, n1b⟩ := HBX.out w1 (by repeat (first | exact Ext.refl _ | assumption | refine Ext.alloc ?_ _ | refine Ext.drew ?_ | refine Ext.drewN ?_ _ | refine Ext.setCell ?_ (by first | exact Nat.le_refl _ | (simp; done) | (dsimp only; omega) | (simp only [World.size_alloc, World.size_setCell]; omega)) _ | refine Ext.trans ?_ (by assumption)))
          go_wp2_with (fail)
          refine (areFogs_any _ nT zT nL zL _ n z _ (HN.out.ext (by repeat (first | exact Ext.refl _ | assumption | refine Ext.alloc ?_ _ | refine Ext.drew ?_ | refine Ext.drewN ?_ _ | refine Ext.setCell ?_ (by first | exact Nat.le_refl _ | (simp; done) | (dsimp only; omega) | (simp only [World.size_alloc, World.size_setCell]; omega)) _ | refine Ext.trans ?_ (by assumption)))) (HF.out.ext (by repeat (first | exact Ext.refl _ | assumption | refine Ext.alloc ?_ _ | refine Ext.drew ?_ | refine Ext.drewN ?_ _ | refine Ext.setCell ?_ (by first | exact Nat.le_refl _ | (simp; done) | (dsimp only; omega) | (simp only [World.size_alloc, World.size_setCell]; omega)) _ | refine Ext.trans ?_ (by assumption))))).mono ?_
          rw [H1.out]
          rintro e w2 ⟨rfl, hb2⟩
          obtain ⟨n2a, n2b⟩ := HBX.out w2 (by repeat (first | exact Ext.refl _ | assumption | refine Ext.alloc ?_ _ | refine Ext.drew ?_ | refine Ext.drewN ?_ _ | refine Ext.setCell ?_ (by first | exact Nat.le_refl _ | (simp; done) | (dsimp only; omega) | (simp only [World.size_alloc, World.size_setCell]; omega)) _ | refine Ext.trans ?_ (by assumption)))
          clear n1a n1b
          go_wp2_with (fail)
          refine (within_any _ _ _ _).mono ?_
          rw [H2.out]
          rintro e w' ⟨rfl, rfl⟩
          go_wp2_with (fail)
          refine (within_any _ _ _ _).mono ?_
          rw [H3.out]
          rintro e w' ⟨rfl, rfl⟩
          go_wp2_with (fail)
          go_ret2
          rw [HQ2.out, HL2.out]
          exact ⟨_, rfl, World.ownsRow_nil _ _ _ _, (by repeat (first | exact Ext.refl _ | assumption | refine Ext.alloc ?_ _ | refine Ext.drew ?_ | refine Ext.drewN ?_ _ | refine Ext.setCell ?_ (by first | exact Nat.le_refl _ | (simp; done) | (dsimp only; omega) | (simp only [World.size_alloc, World.size_setCell]; omega)) _ | refine Ext.trans ?_ (by assumption)))⟩
        | true =>
          have H3 := hid h3
          clear h3
          have HC := hid (show nfC nT zT nL zL z n a b = true by unfold nfC; simp [H0.out, H1.out, H2.out, H3.out])
          obtain ⟨ho1, ho2, ⟨ha1, ha2⟩, hab1, hab2⟩ := nfC_iff HC.out
          have hn60 := (okFg_iff ho2).1
          have hnL := (okNet_iff ho1).2.1
          have hwa : IntKind.i64.wrap (a + 1) = a + 1 := IntWalk.i64_in _ (by omega)
          clear ho1 ho2
          go_enter Try.func11, Try.ntmps11
          go_wp2_with (fail)
          generalize hW0 : (w.alloc (.cells #[.slice aT nT cT, .slice aL nL cL] 27)) = w0
          rw [hW0] at e00 bp0 bp1 bgs
          clear hW0
          obtain ⟨bg, hbg⟩ : ∃ g, g = w.heap.size := ⟨_, rfl⟩
          rw [← hbg] at bp0 bp1 bgs ⊢
          have HBX := hid (fun (W : World) (hW : Ext w0 W) => show W.cell? ⟨bg, 0, none⟩ = some (.slice aT nT cT) ∧ W.cell? ⟨bg, 1, none⟩ = some (.slice aL nL cL) from ⟨by rw [(Ext.cells hW).1 _ _ bgs]; exact bp0, by rw [(Ext.cells hW).1 _ _ bgs]; exact bp1⟩)
          clear hbg bp0 bp1
          refine (iIsNet_any _ nT zT nL zL _ (HN.out.ext (by repeat (first | exact Ext.refl _ | assumption | refine Ext.alloc ?_ _ | refine Ext.drew ?_ | refine Ext.drewN ?_ _ | refine Ext.setCell ?_ (by first | exact Nat.le_refl _ | (simp; done) | (dsimp only; omega) | (simp only [World.size_alloc, World.size_setCell]; omega)) _ | refine Ext.trans ?_ (by assumption))))).mono ?_
          rw [H0.out]
          rintro e w1 ⟨rfl, hb1⟩
          obtain ⟨n1a, n1b⟩ := HBX.out w1 (by repeat (first | exact Ext.refl _ | assumption | refine Ext.alloc ?_ _ | refine Ext.drew ?_ | refine Ext.drewN ?_ _ | refine Ext.setCell ?_ (by first | exact Nat.le_refl _ | (simp; done) | (dsimp only; omega) | (simp only [World.size_alloc, World.size_setCell]; omega)) _ | refine Ext.trans ?_ (by assumption)))
          go_wp2_with (fail)
          refine (areFogs_any _ nT zT nL zL _ n z _ (HN.out.ext (by repeat (first | exact Ext.refl _ | assumption | refine Ext.alloc ?_ _ | refine Ext.drew ?_ | refine Ext.drewN ?_ _ | refine Ext.setCell ?_ (by first | exact Nat.le_refl _ | (simp; done) | (dsimp only; omega) | (simp only [World.size_alloc, World.size_setCell]; omega)) _ | refine Ext.trans ?_ (by assumption)))) (HF.out.ext (by repeat (first | exact Ext.refl _ | assumption | refine Ext.alloc ?_ _ | refine Ext.drew ?_ | refine Ext.drewN ?_ _ | refine Ext.setCell ?_ (by first | exact Nat.le_refl _ | (simp; done) | (dsimp only; omega) | (simp only [World.size_alloc, World.size_setCell]; omega)) _ | refine Ext.trans ?_ (by assumption))))).mono ?_
          rw [H1.out]
          rintro e w2 ⟨rfl, hb2⟩
          obtain ⟨n2a, n2b⟩ := HBX.out w2 (by repeat (first | exact Ext.refl _ | assumption | refine Ext.alloc ?_ _ | refine Ext.drew ?_ | refine Ext.drewN ?_ _ | refine Ext.setCell ?_ (by first | exact Nat.le_refl _ | (simp; done) | (dsimp only; omega) | (simp only [World.size_alloc, World.size_setCell]; omega)) _ | refine Ext.trans ?_ (by assumption)))
          clear n1a n1b
          go_wp2_with (fail)
          refine (within_any _ _ _ _).mono ?_
          rw [H2.out]
          rintro e w' ⟨rfl, rfl⟩
          go_wp2_with (fail)
          refine (within_any _ _ _ _).mono ?_
          rw [H3.out]
          rintro e w' ⟨rfl, rfl⟩
          go_wp2_with (fail)
          refine (cloneFogs_any _ n z _ (HF.out.ext (by repeat (first | exact Ext.refl _ | assumption | refine Ext.alloc ?_ _ | refine Ext.drew ?_ | refine Ext.drewN ?_ _ | refine Ext.setCell ?_ (by first | exact Nat.le_refl _ | (simp; done) | (dsimp only; omega) | (simp only [World.size_alloc, World.size_setCell]; omega)) _ | refine Ext.trans ?_ (by assumption)))) (by omega)).mono ?_
          rintro e w3 ⟨v3, rfl, hr3', hb3⟩
          have hE02 : Ext w0 w2 := hb1.trans hb2
          have hE03 : Ext w0 w3 := hE02.trans hb3
          have hE2 : Ext w w2 := e00.trans hE02
          have hr3 := row_mono hr3' (show w.heap.size ≤ w2.heap.size from hE2.size)
          have hE3 : Ext w w3 := e00.trans hE03
          obtain ⟨n3a, n3b⟩ := HBX.out w3 hE03
          have hrz : w3.ownsRow w.heap.size 78 3 v3 (nfT z n a b 0).length ((flat (nfT z n a b 0)).map (Value.int .i64)) := by
            rw [nfT, tri_length, flat_tri hl]
            exact hr3
          have N3 := HBX.out w3 hE03
          go_wp2_with (fail)
          go_loopw [10, 40] (fun q10 i wr => ∃ k : Nat, k ≤ nL ∧ i = .int .i64 (k : Int) ∧ (∀ j, j < k → (nfT z n a b (j + 1)).length ≤ 60) ∧ wr.ownsRow w.heap.size 78 3 q10 (nfT z n a b k).length ((flat (nfT z n a b k)).map (Value.int .i64)) ∧ Ext w3 wr)
            (fun _ i _ => nL - (intOf i).toNat)
          case atStart => exact ⟨0, Nat.zero_le _, rfl, fun j hj => absurd hj (by omega), hrz, Ext.refl _⟩
          case round =>
            obtain ⟨k, hk, rfl, hle, hrow, hE⟩ := hrel
            clear hrz hr3 N3
            have HLE2 := hid hle
            clear hle
            have hlk := nfT_len H1.out HLE2.out k (Nat.le_refl _)
            have hk0 : (0 : Int) ≤ (k : Int) := Int.natCast_nonneg _
            obtain ⟨n3a, n3b⟩ := HBX.out wr (hE03.trans hE)
            have hE0 : Ext w wr := hE3.trans hE
            by_cases hlt : k < nL
            · have tl : decide ((k : Int) < (nL : Int)) = true := by simpa using hlt
              obtain ⟨hps, hww⟩ := nfT_inv H1.out (a := a) (b := b) ha1 (by omega) hab2 k (by omega) (fun i hi => nfT_len H1.out HLE2.out i (by omega))
              have HOK := hid (show okFg nL (flat (nfT z n a b k)) (nfT z n a b k).length = true by rw [okFg_flat hps hww]; exact decide_eq_true hlk)
              have HIR := hid (row_ints hrow (by unfold maxLen; omega) (flat_wf hww (by omega)))
              have HX : Hid (wfT nL ((k : Int), a, b)) := hid ⟨⟨hk0, by simp only []; omega⟩, ha1, (by simp only []; omega), hab2⟩
              have HNX := hid (show addR (flat (nfT z n a b k)) (nfT z n a b k).length ((k : Int), a, b) = nfT z n a b (k + 1) from rfl)
              obtain ⟨aq, cq, rfl, _, _, _⟩ := row_shape hrow
              clear hps hww hrow
              go_wp2_with (fail)
              refine (iAddFog_any _ nT zT nL zL _ _ _ _ _ _ _ (HN.out.ext hE0) H0 (HIR.out.ext (by repeat (first | exact Ext.refl _ | assumption | refine Ext.alloc ?_ _ | refine Ext.drew ?_ | refine Ext.drewN ?_ _ | refine Ext.setCell ?_ (by first | exact Nat.le_refl _ | (simp; done) | (dsimp only; omega) | (simp only [World.size_alloc, World.size_setCell]; omega)) _ | refine Ext.trans ?_ (by assumption)))) HOK HX).mono ?_
              rintro e w5 ⟨v5, rfl, hr5, hb5⟩
              rw [HNX.out] at hr5 ⊢
              obtain ⟨NL, hNL⟩ : ∃ x, x = (nfT z n a b (k + 1)).length := ⟨_, rfl⟩
              rw [← hNL] at hr5 ⊢
              by_cases h60 : NL ≤ 60
              · have hr6 := row_mono (hr5 h60) (show w.heap.size ≤ wr.heap.size from hE0.size)
                have HR6 := hid hr6
                have HNL := hid hNL
                rw [decide_eq_true h60]
                clear hNL hr5 hr6
                go_wp2_with (fail)
                go_roundw
                case rel =>
                  refine ⟨k + 1, by omega, by go_num, fun j hj => ?_, ?_, hE.trans hb5⟩
                  · by_cases e : j = k
                    · subst e
                      rw [← HNL.out]
                      exact h60
                    · exact HLE2.out j (by omega)
                  · rw [← HNL.out]
                    exact HR6.out
                case measure => simp [intOf]; omega
              · rw [decide_eq_false h60]
                rw [hNL] at h60
                have HB := hid (show nfB z n a b nL = false by unfold nfB; exact allB_f hlt (by simp; omega))
                have HQ2 := hid (show Q = false by rw [HQQ.out]; unfold nfQ; rw [HC.out, HB.out]; rfl)
                have HL2 := hid (show L = [] by rw [HLE.out]; unfold nfL nfQ; rw [HC.out, HB.out]; rfl)
                clear hNL h60 hr5
                go_wp2_with (fail)
                go_ret2
                rw [HQ2.out, HL2.out]
                exact ⟨_, rfl, World.ownsRow_nil _ _ _ _, hE0.trans hb5⟩
            · obtain rfl : k = nL := by omega
              have tl : decide ((k : Int) < (k : Int)) = false := by simp
              have HB := hid (show nfB z n a b k = true from allB_t (fun j hj => by simpa using HLE2.out j hj))
              have HQ2 := hid (show Q = true by rw [HQQ.out]; unfold nfQ; rw [HC.out, HB.out]; rfl)
              have HL2 := hid (show L = flat (nfT z n a b k) by rw [HLE.out]; unfold nfL nfQ; rw [HC.out, HB.out]; rfl)
              go_wp2_with (fail)
              go_ret2
              rw [HQ2.out, HL2.out, show (flat (nfT z n a b k)).length / 3 = (nfT z n a b k).length by rw [flat_len]; omega]
              exact ⟨_, rfl, hrow, hE0⟩

end Go.Proofs.Ytjmbhlhkjjinbaa