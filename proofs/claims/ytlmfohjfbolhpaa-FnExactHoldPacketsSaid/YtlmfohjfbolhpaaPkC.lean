/- The law of HoldPackets: the program's and the reference's are the same, and no argument is changed or held. No condition. -/
import Derived.Test.YtlmfohjfbolhpaaPkB
namespace Go.Proofs.Ytlmfohjfbolhpaa
open Go.RowKit
set_option linter.unusedSimpArgs false
set_option linter.unusedVariables false


set_option maxRecDepth 100000 in
set_option maxHeartbeats 4000000 in
theorem walkFnExactHoldPackets (v0 : Value) (nT0 : Nat) (zT0 : List Int) (nL0 : Nat) (zL0 : List Int) (v1 : Value) (n1 : Nat) (z1 : List Int) (a2 : Int) (v3 : Value) (n3 : Nat) (z3 : List Int) (Y3 : List (List Int)) (a4 : Int) (w : World) (r0 : NetRow w v0 nT0 zT0 nL0 zL0) (r1 : IntRow .i64 3 w v1 n1 z1) (_ : (Lit.int .i64 a2).wf = true) (r3 : PkRow w v3 n3 z3 Y3) (_ : (Lit.int .i64 a4).wf = true) :
    Calls Try.prog 13 #[v0, v1, .int .i64 a2, v3, .int .i64 a4] w fun e w' => e = .returned (.bool true) ∧ Ext w w' := by
  have HWT0 := hid r0.wf.1
  have HWL0 := hid r0.wf.2
  obtain ⟨vT0, vL0, rfl, _, _⟩ := id r0
  have HW1 := hid r1.2.2.1
  have HW3 := hid r3.2.2.2.1
  have HS3 := hid r3.sig
  have HZ3 := hid r3.1
  have HZS3 := hid r3.2.1
  obtain ⟨aP3, cP3, rfl⟩ := pkrow_slice r3
  have hsz0 := fun (W : World) (hW : Ext w W) => szNet_any _ nT0 zT0 nL0 zL0 W 1048576 (r0.ext hW) (by omega) (by omega)
  by_cases hn0 : nT0 + nL0 ≤ (1048576 : Int)
  · rw [if_pos hn0] at hsz0
    obtain ⟨q0, hq0⟩ : ∃ q : Int, q = 1048576 - nT0 - nL0 := ⟨_, rfl⟩
    rw [← hq0] at hsz0
    have hqa0 : 0 ≤ q0 := by omega
    have hqb0 : q0 ≤ 1048576 := by omega
    have hsz1 := fun (W : World) (hW : Ext w W) => szFogS_any v1 n1 z1 W q0 (r1.ext hW) (by omega) (by omega)
    by_cases hn1 : (n1 : Int) ≤ q0
    · rw [if_pos hn1] at hsz1
      obtain ⟨q1, hq1⟩ : ∃ q : Int, q = q0 - n1 := ⟨_, rfl⟩
      rw [← hq1] at hsz1
      have hqa1 : 0 ≤ q1 := by omega
      have hqb1 : q1 ≤ 1048576 := by omega
      have hsz3 := fun (W : World) (hW : Ext w W) => szPacketS_any _ n3 z3 Y3 W q1 (r3.ext hW) (by omega) (by omega)
      by_cases hn3 : (n3 : Int) + (totS Y3 n3 : Nat) ≤ (q1 : Int)
      · rw [if_pos hn3] at hsz3
        obtain ⟨q3, hq3⟩ : ∃ q : Int, q = q1 - n3 - (totS Y3 n3 : Nat) := ⟨_, rfl⟩
        rw [← hq3] at hsz3
        have hqa3 : 0 ≤ q3 := by omega
        have hqb3 : q3 ≤ 1048576 := by omega
        have hnT0 : nT0 ≤ 1048576 := by omega
        have hnL0 : nL0 ≤ 1048576 := by omega
        have hm1 : n1 ≤ 1048576 := by omega
        have hm3 : n3 ≤ 1048576 := by omega
        have hms3 : n3 + totS Y3 n3 ≤ 1048576 := by omega
        have HQ0 := hid hq0
        clear hq0
        have HQ1 := hid hq1
        clear hq1
        have HQ3 := hid hq3
        clear hq3
        obtain ⟨L, hL⟩ : ∃ L, L = hpV nT0 zT0 nL0 zL0 z1 n1 a2 z3 Y3 n3 a4 := ⟨_, rfl⟩
        have HLW : Hid (∀ x ∈ L, (Lit.int .i64 x).wf = true) := hid (by rw [hL]; exact (hpV_inv _ _ _ _ _ _ _ _ _ _ _).1)
        have hLl : L.length / 1 ≤ 16777216 := by rw [hL]; have := (hpV_inv nT0 zT0 nL0 zL0 z1 n1 a2 z3 Y3 n3 a4).2; omega
        have HL := hid hL
        clear hL
        go_enter Try.func13, Try.ntmps13
        go_wp2_with (fail)
        have e00 : Ext w (w.alloc (.cells #[vT0, vL0] 25)) := (Ext.refl w).alloc _
        have bp0 : (w.alloc (.cells #[vT0, vL0] 25)).cell? ⟨w.heap.size, 0, none⟩ = some vT0 := by simp [go_sem]
        have bp1 : (w.alloc (.cells #[vT0, vL0] 25)).cell? ⟨w.heap.size, 1, none⟩ = some vL0 := by simp [go_sem]
        have bgs : w.heap.size < (w.alloc (.cells #[vT0, vL0] 25)).heap.size := by simp
        generalize (w.alloc (.cells #[vT0, vL0] 25)) = w0 at *
        obtain ⟨bg, hbg⟩ : ∃ g, g = w.heap.size := ⟨_, rfl⟩
        rw [← hbg] at bp0 bp1 bgs ⊢
        have HBX := hid (fun (W : World) (hW : Ext w0 W) => show W.cell? ⟨bg, 0, none⟩ = some vT0 ∧ W.cell? ⟨bg, 1, none⟩ = some vL0 from ⟨by rw [(Ext.cells hW).1 _ _ bgs]; exact bp0, by rw [(Ext.cells hW).1 _ _ bgs]; exact bp1⟩)
        clear hbg
        go_wp2_with (fail)
        refine (hsz0 _ (by repeat (first | exact Ext.refl _ | assumption | refine Ext.alloc ?_ _ | refine Ext.drew ?_ | refine Ext.drewN ?_ _ | refine Ext.setCell ?_ (by first | exact Nat.le_refl _ | (simp; done) | (dsimp only; omega) | (simp only [World.size_alloc, World.size_setCell]; omega)) _ | refine Ext.trans ?_ (by assumption)))).mono ?_
        rintro e wz ⟨rfl, hbz⟩
        clear bp0 bp1
        obtain ⟨bxa, bxb⟩ := HBX.out wz (by repeat (first | exact Ext.refl _ | assumption | refine Ext.alloc ?_ _ | refine Ext.drew ?_ | refine Ext.drewN ?_ _ | refine Ext.setCell ?_ (by first | exact Nat.le_refl _ | (simp; done) | (dsimp only; omega) | (simp only [World.size_alloc, World.size_setCell]; omega)) _ | refine Ext.trans ?_ (by assumption)))
        clear hsz0
        go_wp2_with (fail)
        refine (hsz1 _ (by repeat (first | exact Ext.refl _ | assumption | refine Ext.alloc ?_ _ | refine Ext.drew ?_ | refine Ext.drewN ?_ _ | refine Ext.setCell ?_ (by first | exact Nat.le_refl _ | (simp; done) | (dsimp only; omega) | (simp only [World.size_alloc, World.size_setCell]; omega)) _ | refine Ext.trans ?_ (by assumption)))).mono ?_
        rintro e w' ⟨rfl, rfl⟩
        clear hsz1
        go_wp2_with (fail)
        refine (hsz3 _ (by repeat (first | exact Ext.refl _ | assumption | refine Ext.alloc ?_ _ | refine Ext.drew ?_ | refine Ext.drewN ?_ _ | refine Ext.setCell ?_ (by first | exact Nat.le_refl _ | (simp; done) | (dsimp only; omega) | (simp only [World.size_alloc, World.size_setCell]; omega)) _ | refine Ext.trans ?_ (by assumption)))).mono ?_
        rintro e wv3 ⟨rfl, hbv3⟩
        clear bxa bxb
        obtain ⟨bxa, bxb⟩ := HBX.out wv3 (by repeat (first | exact Ext.refl _ | assumption | refine Ext.alloc ?_ _ | refine Ext.drew ?_ | refine Ext.drewN ?_ _ | refine Ext.setCell ?_ (by first | exact Nat.le_refl _ | (simp; done) | (dsimp only; omega) | (simp only [World.size_alloc, World.size_setCell]; omega)) _ | refine Ext.trans ?_ (by assumption)))
        clear hsz3
        go_wp2_with (fail)
        refine (toNet_any _ nT0 nL0 zT0 zL0 _ (r0.ext (by repeat (first | exact Ext.refl _ | assumption | refine Ext.alloc ?_ _ | refine Ext.drew ?_ | refine Ext.drewN ?_ _ | refine Ext.setCell ?_ (by first | exact Nat.le_refl _ | (simp; done) | (dsimp only; omega) | (simp only [World.size_alloc, World.size_setCell]; omega)) _ | refine Ext.trans ?_ (by assumption)))) hnT0 hnL0).mono ?_
        rintro e w1 ⟨x1, rfl, hr1, hb1⟩
        obtain ⟨bxa1, bxb1⟩ := HBX.out w1 (by repeat (first | exact Ext.refl _ | assumption | refine Ext.alloc ?_ _ | refine Ext.drew ?_ | refine Ext.drewN ?_ _ | refine Ext.setCell ?_ (by first | exact Nat.le_refl _ | (simp; done) | (dsimp only; omega) | (simp only [World.size_alloc, World.size_setCell]; omega)) _ | refine Ext.trans ?_ (by assumption)))
        clear bxa bxb
        go_wp2_with (fail)
        refine (toFogS_any _ n1 z1 _ (r1.ext (by repeat (first | exact Ext.refl _ | assumption | refine Ext.alloc ?_ _ | refine Ext.drew ?_ | refine Ext.drewN ?_ _ | refine Ext.setCell ?_ (by first | exact Nat.le_refl _ | (simp; done) | (dsimp only; omega) | (simp only [World.size_alloc, World.size_setCell]; omega)) _ | refine Ext.trans ?_ (by assumption)))) hm1).mono ?_
        rintro e w2 ⟨g2, rfl, hr2, hb2⟩
        obtain ⟨bxa2, bxb2⟩ := HBX.out w2 (by repeat (first | exact Ext.refl _ | assumption | refine Ext.alloc ?_ _ | refine Ext.drew ?_ | refine Ext.drewN ?_ _ | refine Ext.setCell ?_ (by first | exact Nat.le_refl _ | (simp; done) | (dsimp only; omega) | (simp only [World.size_alloc, World.size_setCell]; omega)) _ | refine Ext.trans ?_ (by assumption)))
        clear bxa1 bxb1
        go_wp2_with (fail)
        refine (toPacketS_any _ n3 z3 Y3 _ (r3.ext (by repeat (first | exact Ext.refl _ | assumption | refine Ext.alloc ?_ _ | refine Ext.drew ?_ | refine Ext.drewN ?_ _ | refine Ext.setCell ?_ (by first | exact Nat.le_refl _ | (simp; done) | (dsimp only; omega) | (simp only [World.size_alloc, World.size_setCell]; omega)) _ | refine Ext.trans ?_ (by assumption)))) hms3).mono ?_
        rintro e w3 ⟨G3, f3, rfl, hr3, hb3⟩
        obtain ⟨bxa3, bxb3⟩ := HBX.out w3 (by repeat (first | exact Ext.refl _ | assumption | refine Ext.alloc ?_ _ | refine Ext.drew ?_ | refine Ext.drewN ?_ _ | refine Ext.setCell ?_ (by first | exact Nat.le_refl _ | (simp; done) | (dsimp only; omega) | (simp only [World.size_alloc, World.size_setCell]; omega)) _ | refine Ext.trans ?_ (by assumption)))
        clear bxa2 bxb2
        go_wp2_with (fail)
        refine (sHoldPackets_any _ nT0 zT0 nL0 zL0 _ n1 z1 a2 _ n3 z3 Y3 a4 _ ((OwnNet.ext hr1 (by repeat (first | exact Ext.refl _ | assumption | refine Ext.alloc ?_ _ | refine Ext.drew ?_ | refine Ext.drewN ?_ _ | refine Ext.setCell ?_ (by first | exact Nat.le_refl _ | (simp; done) | (dsimp only; omega) | (simp only [World.size_alloc, World.size_setCell]; omega)) _ | refine Ext.trans ?_ (by assumption)))).net (by unfold maxLen; omega) (by unfold maxLen; omega) HWT0.out HWL0.out) (row_ints (row_ext hr2 (by repeat (first | exact Ext.refl _ | assumption | refine Ext.alloc ?_ _ | refine Ext.drew ?_ | refine Ext.drewN ?_ _ | refine Ext.setCell ?_ (by first | exact Nat.le_refl _ | (simp; done) | (dsimp only; omega) | (simp only [World.size_alloc, World.size_setCell]; omega)) _ | refine Ext.trans ?_ (by assumption)))) (by unfold maxLen; omega) HW1.out) ((OwnPk.ext hr3 (by repeat (first | exact Ext.refl _ | assumption | refine Ext.alloc ?_ _ | refine Ext.drew ?_ | refine Ext.drewN ?_ _ | refine Ext.setCell ?_ (by first | exact Nat.le_refl _ | (simp; done) | (dsimp only; omega) | (simp only [World.size_alloc, World.size_setCell]; omega)) _ | refine Ext.trans ?_ (by assumption)))).pk HZ3.out HZS3.out (by unfold maxLen; omega) HW3.out HS3.out)).mono ?_
        rintro e w4 ⟨vw, rfl, hrw, hb4⟩
        obtain ⟨bxa4, bxb4⟩ := HBX.out w4 (by repeat (first | exact Ext.refl _ | assumption | refine Ext.alloc ?_ _ | refine Ext.drew ?_ | refine Ext.drewN ?_ _ | refine Ext.setCell ?_ (by first | exact Nat.le_refl _ | (simp; done) | (dsimp only; omega) | (simp only [World.size_alloc, World.size_setCell]; omega)) _ | refine Ext.trans ?_ (by assumption)))
        clear bxa3 bxb3
        rw [← HL.out] at hrw
        go_wp2_with (fail)
        refine (toNet_any _ nT0 nL0 zT0 zL0 _ (r0.ext (by repeat (first | exact Ext.refl _ | assumption | refine Ext.alloc ?_ _ | refine Ext.drew ?_ | refine Ext.drewN ?_ _ | refine Ext.setCell ?_ (by first | exact Nat.le_refl _ | (simp; done) | (dsimp only; omega) | (simp only [World.size_alloc, World.size_setCell]; omega)) _ | refine Ext.trans ?_ (by assumption)))) hnT0 hnL0).mono ?_
        rintro e w5 ⟨x5, rfl, hr5, hb5⟩
        obtain ⟨bxa5, bxb5⟩ := HBX.out w5 (by repeat (first | exact Ext.refl _ | assumption | refine Ext.alloc ?_ _ | refine Ext.drew ?_ | refine Ext.drewN ?_ _ | refine Ext.setCell ?_ (by first | exact Nat.le_refl _ | (simp; done) | (dsimp only; omega) | (simp only [World.size_alloc, World.size_setCell]; omega)) _ | refine Ext.trans ?_ (by assumption)))
        clear bxa4 bxb4
        obtain ⟨gT, gL, hxe, hglt, hgT, hgL⟩ := id hr5
        subst hxe
        go_wp2_with (fail)
        have e5y : Ext w5 (w5.alloc (.cells #[.slice (some ⟨gT, 0, none⟩) nT0 nT0, .slice (some ⟨gL, 0, none⟩) nL0 nL0] 35)) := (Ext.refl _).alloc _
        have bq0 : (w5.alloc (.cells #[.slice (some ⟨gT, 0, none⟩) nT0 nT0, .slice (some ⟨gL, 0, none⟩) nL0 nL0] 35)).cell? ⟨w5.heap.size, 0, none⟩ = some (.slice (some ⟨gT, 0, none⟩) nT0 nT0) := by simp [go_sem]
        have bq1 : (w5.alloc (.cells #[.slice (some ⟨gT, 0, none⟩) nT0 nT0, .slice (some ⟨gL, 0, none⟩) nL0 nL0] 35)).cell? ⟨w5.heap.size, 1, none⟩ = some (.slice (some ⟨gL, 0, none⟩) nL0 nL0) := by simp [go_sem]
        have byn : w5.heap.size < (w5.alloc (.cells #[.slice (some ⟨gT, 0, none⟩) nT0 nT0, .slice (some ⟨gL, 0, none⟩) nL0 nL0] 35)).heap.size := by simp
        obtain ⟨wy, hwy⟩ : ∃ x, x = (w5.alloc (.cells #[.slice (some ⟨gT, 0, none⟩) nT0 nT0, .slice (some ⟨gL, 0, none⟩) nL0 nL0] 35)) := ⟨_, rfl⟩
        rw [← hwy] at e5y bq0 bq1 byn ⊢
        obtain ⟨by5, hby⟩ : ∃ g, g = w5.heap.size := ⟨_, rfl⟩
        rw [← hby] at bq0 bq1 byn ⊢
        have HBY := hid (fun (W : World) (hW : Ext wy W) => show W.cell? ⟨by5, 0, none⟩ = some (.slice (some ⟨gT, 0, none⟩) nT0 nT0) ∧ W.cell? ⟨by5, 1, none⟩ = some (.slice (some ⟨gL, 0, none⟩) nL0 nL0) from ⟨by rw [(Ext.cells hW).1 _ _ byn]; exact bq0, by rw [(Ext.cells hW).1 _ _ byn]; exact bq1⟩)
        have HBYE := hid hby
        clear hwy hby bq0 bq1
        obtain ⟨bya, byb⟩ := HBY.out wy (Ext.refl _)
        obtain ⟨bxa, bxb⟩ := HBX.out wy (by repeat (first | exact Ext.refl _ | assumption | refine Ext.alloc ?_ _ | refine Ext.drew ?_ | refine Ext.drewN ?_ _ | refine Ext.setCell ?_ (by first | exact Nat.le_refl _ | (simp; done) | (dsimp only; omega) | (simp only [World.size_alloc, World.size_setCell]; omega)) _ | refine Ext.trans ?_ (by assumption)))
        clear bxa5 bxb5
        go_wp2_with (fail)
        refine (toFogS_any _ n1 z1 _ (r1.ext (by repeat (first | exact Ext.refl _ | assumption | refine Ext.alloc ?_ _ | refine Ext.drew ?_ | refine Ext.drewN ?_ _ | refine Ext.setCell ?_ (by first | exact Nat.le_refl _ | (simp; done) | (dsimp only; omega) | (simp only [World.size_alloc, World.size_setCell]; omega)) _ | refine Ext.trans ?_ (by assumption)))) hm1).mono ?_
        rintro e w6 ⟨g6, rfl, hr6, hb6⟩
        obtain ⟨bxa6, bxb6⟩ := HBX.out w6 (by repeat (first | exact Ext.refl _ | assumption | refine Ext.alloc ?_ _ | refine Ext.drew ?_ | refine Ext.drewN ?_ _ | refine Ext.setCell ?_ (by first | exact Nat.le_refl _ | (simp; done) | (dsimp only; omega) | (simp only [World.size_alloc, World.size_setCell]; omega)) _ | refine Ext.trans ?_ (by assumption)))
        obtain ⟨bya6, byb6⟩ := HBY.out w6 (by repeat (first | exact Ext.refl _ | assumption | refine Ext.alloc ?_ _ | refine Ext.drew ?_ | refine Ext.drewN ?_ _ | refine Ext.setCell ?_ (by first | exact Nat.le_refl _ | (simp; done) | (dsimp only; omega) | (simp only [World.size_alloc, World.size_setCell]; omega)) _ | refine Ext.trans ?_ (by assumption)))
        clear bxa bxb bya byb
        go_wp2_with (fail)
        refine (toPacketS_any _ n3 z3 Y3 _ (r3.ext (by repeat (first | exact Ext.refl _ | assumption | refine Ext.alloc ?_ _ | refine Ext.drew ?_ | refine Ext.drewN ?_ _ | refine Ext.setCell ?_ (by first | exact Nat.le_refl _ | (simp; done) | (dsimp only; omega) | (simp only [World.size_alloc, World.size_setCell]; omega)) _ | refine Ext.trans ?_ (by assumption)))) hms3).mono ?_
        rintro e w7 ⟨G7, f7, rfl, hr7, hb7⟩
        obtain ⟨bxa7, bxb7⟩ := HBX.out w7 (by repeat (first | exact Ext.refl _ | assumption | refine Ext.alloc ?_ _ | refine Ext.drew ?_ | refine Ext.drewN ?_ _ | refine Ext.setCell ?_ (by first | exact Nat.le_refl _ | (simp; done) | (dsimp only; omega) | (simp only [World.size_alloc, World.size_setCell]; omega)) _ | refine Ext.trans ?_ (by assumption)))
        obtain ⟨bya7, byb7⟩ := HBY.out w7 (by repeat (first | exact Ext.refl _ | assumption | refine Ext.alloc ?_ _ | refine Ext.drew ?_ | refine Ext.drewN ?_ _ | refine Ext.setCell ?_ (by first | exact Nat.le_refl _ | (simp; done) | (dsimp only; omega) | (simp only [World.size_alloc, World.size_setCell]; omega)) _ | refine Ext.trans ?_ (by assumption)))
        clear bxa6 bxb6 bya6 byb6
        go_wp2_with (fail)
        refine (iHoldPackets_any _ nT0 zT0 nL0 zL0 _ n1 z1 a2 _ n3 z3 Y3 a4 _ ((OwnNet.ext hr5 (by repeat (first | exact Ext.refl _ | assumption | refine Ext.alloc ?_ _ | refine Ext.drew ?_ | refine Ext.drewN ?_ _ | refine Ext.setCell ?_ (by first | exact Nat.le_refl _ | (simp; done) | (dsimp only; omega) | (simp only [World.size_alloc, World.size_setCell]; omega)) _ | refine Ext.trans ?_ (by assumption)))).net (by unfold maxLen; omega) (by unfold maxLen; omega) HWT0.out HWL0.out) (row_ints (row_ext hr6 (by repeat (first | exact Ext.refl _ | assumption | refine Ext.alloc ?_ _ | refine Ext.drew ?_ | refine Ext.drewN ?_ _ | refine Ext.setCell ?_ (by first | exact Nat.le_refl _ | (simp; done) | (dsimp only; omega) | (simp only [World.size_alloc, World.size_setCell]; omega)) _ | refine Ext.trans ?_ (by assumption)))) (by unfold maxLen; omega) HW1.out) ((OwnPk.ext hr7 (by repeat (first | exact Ext.refl _ | assumption | refine Ext.alloc ?_ _ | refine Ext.drew ?_ | refine Ext.drewN ?_ _ | refine Ext.setCell ?_ (by first | exact Nat.le_refl _ | (simp; done) | (dsimp only; omega) | (simp only [World.size_alloc, World.size_setCell]; omega)) _ | refine Ext.trans ?_ (by assumption)))).pk HZ3.out HZS3.out (by unfold maxLen; omega) HW3.out HS3.out)).mono ?_
        rintro e w8 ⟨vg, rfl, hrg, hb8⟩
        obtain ⟨bxa8, bxb8⟩ := HBX.out w8 (by repeat (first | exact Ext.refl _ | assumption | refine Ext.alloc ?_ _ | refine Ext.drew ?_ | refine Ext.drewN ?_ _ | refine Ext.setCell ?_ (by first | exact Nat.le_refl _ | (simp; done) | (dsimp only; omega) | (simp only [World.size_alloc, World.size_setCell]; omega)) _ | refine Ext.trans ?_ (by assumption)))
        obtain ⟨bya8, byb8⟩ := HBY.out w8 (by repeat (first | exact Ext.refl _ | assumption | refine Ext.alloc ?_ _ | refine Ext.drew ?_ | refine Ext.drewN ?_ _ | refine Ext.setCell ?_ (by first | exact Nat.le_refl _ | (simp; done) | (dsimp only; omega) | (simp only [World.size_alloc, World.size_setCell]; omega)) _ | refine Ext.trans ?_ (by assumption)))
        clear bxa7 bxb7 bya7 byb7
        rw [← HL.out] at hrg
        go_wp2_with (fail)
        refine (eqIntS_same _ _ (L.length / 1) L _ (row_ints (row_ext hrg (by repeat (first | exact Ext.refl _ | assumption | refine Ext.alloc ?_ _ | refine Ext.drew ?_ | refine Ext.drewN ?_ _ | refine Ext.setCell ?_ (by first | exact Nat.le_refl _ | (simp; done) | (dsimp only; omega) | (simp only [World.size_alloc, World.size_setCell]; omega)) _ | refine Ext.trans ?_ (by assumption)))) (by unfold maxLen; omega) HLW.out) (row_ints (row_ext hrw (by repeat (first | exact Ext.refl _ | assumption | refine Ext.alloc ?_ _ | refine Ext.drew ?_ | refine Ext.drewN ?_ _ | refine Ext.setCell ?_ (by first | exact Nat.le_refl _ | (simp; done) | (dsimp only; omega) | (simp only [World.size_alloc, World.size_setCell]; omega)) _ | refine Ext.trans ?_ (by assumption)))) (by unfold maxLen; omega) HLW.out)).mono ?_
        rintro e w9 ⟨rfl, hb9⟩
        obtain ⟨bxa9, bxb9⟩ := HBX.out w9 (by repeat (first | exact Ext.refl _ | assumption | refine Ext.alloc ?_ _ | refine Ext.drew ?_ | refine Ext.drewN ?_ _ | refine Ext.setCell ?_ (by first | exact Nat.le_refl _ | (simp; done) | (dsimp only; omega) | (simp only [World.size_alloc, World.size_setCell]; omega)) _ | refine Ext.trans ?_ (by assumption)))
        obtain ⟨bya9, byb9⟩ := HBY.out w9 (by repeat (first | exact Ext.refl _ | assumption | refine Ext.alloc ?_ _ | refine Ext.drew ?_ | refine Ext.drewN ?_ _ | refine Ext.setCell ?_ (by first | exact Nat.le_refl _ | (simp; done) | (dsimp only; omega) | (simp only [World.size_alloc, World.size_setCell]; omega)) _ | refine Ext.trans ?_ (by assumption)))
        clear bxa8 bxb8 bya8 byb8
        go_wp2_with (fail)
        have SK0 := And.intro (HBX.out w9.drew (by repeat (first | exact Ext.refl _ | assumption | refine Ext.alloc ?_ _ | refine Ext.drew ?_ | refine Ext.drewN ?_ _ | refine Ext.setCell ?_ (by first | exact Nat.le_refl _ | (simp; done) | (dsimp only; omega) | (simp only [World.size_alloc, World.size_setCell]; omega)) _ | refine Ext.trans ?_ (by assumption)))) (HBY.out w9.drew (by repeat (first | exact Ext.refl _ | assumption | refine Ext.alloc ?_ _ | refine Ext.drew ?_ | refine Ext.drewN ?_ _ | refine Ext.setCell ?_ (by first | exact Nat.le_refl _ | (simp; done) | (dsimp only; omega) | (simp only [World.size_alloc, World.size_setCell]; omega)) _ | refine Ext.trans ?_ (by assumption))))
        refine wp_region_noPanic ?_
        refine wp_region_held_drew (S := (fun W => (W.cell? ⟨bg, 0, none⟩ = some vT0 ∧ W.cell? ⟨bg, 1, none⟩ = some vL0) ∧ (W.cell? ⟨by5, 0, none⟩ = some (.slice (some ⟨gT, 0, none⟩) nT0 nT0) ∧ W.cell? ⟨by5, 1, none⟩ = some (.slice (some ⟨gL, 0, none⟩) nL0 nL0)))) (by kernel_rfl) ?_ (fun hHeld => ?_)
        · first | exact SK0 | (dsimp only; exact SK0)
        refine wpAnyH_take (i := 0) (oi := { dst := some 75, op := _, type := _, pos := _, after := _, guard := _ }) (v := ?_) rfl (by kernel_rfl) (by kernel_rfl) (by kernel_rfl) (fun _ _ _ h => h) (Or.inl ⟨by rfl, ?_⟩) (by assumption) ?_
        rotate_left
        · (intro w hSw; (try dsimp only at hSw); go_simp) <;> (first | done | with_reducible rfl | rfl)
        try simp only [Act.put, List.setIfInBounds_toArray, List.set_cons_zero, List.set_cons_succ]
        refine wpAnyH_take (i := 1) (oi := { dst := some 76, op := _, type := _, pos := _, after := _, guard := _ }) (v := ?_) rfl (by kernel_rfl) (by kernel_rfl) (by kernel_rfl) (fun _ _ _ h => h) (Or.inl ⟨by rfl, ?_⟩) (by assumption) ?_
        rotate_left
        · (intro w hSw; (try dsimp only at hSw); go_simp) <;> (first | done | with_reducible rfl | rfl)
        try simp only [Act.put, List.setIfInBounds_toArray, List.set_cons_zero, List.set_cons_succ]
        refine wpAnyH_ready (rs := [2]) (by kernel_rfl) (by simp) ?_
        refine AllReadyH.cons (o := { dst := some 77, op := _, type := _, pos := _, after := _, guard := _ }) rfl (fun K hK => ?_) AllReadyH.nil
        go_simp
        go_at_call 17
        refine (toNet_any _ nT0 nL0 zT0 zL0 _ (r0.ext (by repeat (first | exact Ext.refl _ | assumption | refine Ext.alloc ?_ _ | refine Ext.drew ?_ | refine Ext.drewN ?_ _ | refine Ext.setCell ?_ (by first | exact Nat.le_refl _ | (simp; done) | (dsimp only; omega) | (simp only [World.size_alloc, World.size_setCell]; omega)) _ | refine Ext.trans ?_ (by assumption)))) hnT0 hnL0).mono ?_
        rintro e w10 ⟨x10, rfl, hr10, hb10⟩
        have SK := And.intro (HBX.out w10 (by repeat (first | exact Ext.refl _ | assumption | refine Ext.alloc ?_ _ | refine Ext.drew ?_ | refine Ext.drewN ?_ _ | refine Ext.setCell ?_ (by first | exact Nat.le_refl _ | (simp; done) | (dsimp only; omega) | (simp only [World.size_alloc, World.size_setCell]; omega)) _ | refine Ext.trans ?_ (by assumption)))) (HBY.out w10 (by repeat (first | exact Ext.refl _ | assumption | refine Ext.alloc ?_ _ | refine Ext.drew ?_ | refine Ext.drewN ?_ _ | refine Ext.setCell ?_ (by first | exact Nat.le_refl _ | (simp; done) | (dsimp only; omega) | (simp only [World.size_alloc, World.size_setCell]; omega)) _ | refine Ext.trans ?_ (by assumption))))
        refine hK.out _ _ ?_ (fun hHeld => ?_)
        · first | exact SK | (dsimp only; exact SK)
        clear hK K
        try simp only [Act.put, List.setIfInBounds_toArray, List.set_cons_zero, List.set_cons_succ]
        refine wpAnyH_ready (rs := [3]) (by kernel_rfl) (by simp) ?_
        refine AllReadyH.cons (o := { dst := some 78, op := _, type := _, pos := _, after := _, guard := _ }) rfl (fun K hK => ?_) AllReadyH.nil
        go_simp
        go_at_call 21
        refine (eqNet_same _ _ nT0 zT0 nL0 zL0 _ ((OwnNet.ext hr5 (by repeat (first | exact Ext.refl _ | assumption | refine Ext.alloc ?_ _ | refine Ext.drew ?_ | refine Ext.drewN ?_ _ | refine Ext.setCell ?_ (by first | exact Nat.le_refl _ | (simp; done) | (dsimp only; omega) | (simp only [World.size_alloc, World.size_setCell]; omega)) _ | refine Ext.trans ?_ (by assumption)))).net (by unfold maxLen; omega) (by unfold maxLen; omega) HWT0.out HWL0.out) ((OwnNet.ext hr10 (by repeat (first | exact Ext.refl _ | assumption | refine Ext.alloc ?_ _ | refine Ext.drew ?_ | refine Ext.drewN ?_ _ | refine Ext.setCell ?_ (by first | exact Nat.le_refl _ | (simp; done) | (dsimp only; omega) | (simp only [World.size_alloc, World.size_setCell]; omega)) _ | refine Ext.trans ?_ (by assumption)))).net (by unfold maxLen; omega) (by unfold maxLen; omega) HWT0.out HWL0.out)).mono ?_
        rintro e w11 ⟨rfl, hb11⟩
        have SK2 := And.intro (HBX.out w11 (by repeat (first | exact Ext.refl _ | assumption | refine Ext.alloc ?_ _ | refine Ext.drew ?_ | refine Ext.drewN ?_ _ | refine Ext.setCell ?_ (by first | exact Nat.le_refl _ | (simp; done) | (dsimp only; omega) | (simp only [World.size_alloc, World.size_setCell]; omega)) _ | refine Ext.trans ?_ (by assumption)))) (HBY.out w11 (by repeat (first | exact Ext.refl _ | assumption | refine Ext.alloc ?_ _ | refine Ext.drew ?_ | refine Ext.drewN ?_ _ | refine Ext.setCell ?_ (by first | exact Nat.le_refl _ | (simp; done) | (dsimp only; omega) | (simp only [World.size_alloc, World.size_setCell]; omega)) _ | refine Ext.trans ?_ (by assumption))))
        refine hK.out _ _ ?_ (fun hHeld => ?_)
        · first | exact SK2 | (dsimp only; exact SK2)
        clear hK K
        try simp only [Act.put, List.setIfInBounds_toArray, List.set_cons_zero, List.set_cons_succ]
        refine wpAnyH_take (i := 4) (oi := { dst := some 79, op := _, type := _, pos := _, after := _, guard := _ }) (v := ?_) rfl (by kernel_rfl) (by kernel_rfl) (by kernel_rfl) (fun _ _ _ h => h) (Or.inl ⟨by rfl, ?_⟩) (by assumption) ?_
        rotate_left
        · (intro w hSw; (try dsimp only at hSw); go_simp) <;> (first | done | with_reducible rfl | rfl)
        try simp only [Act.put, List.setIfInBounds_toArray, List.set_cons_zero, List.set_cons_succ]
        refine wpAnyH_done (by kernel_rfl) ?_ _
        refine NoPanic.normal ?_
        clear SK0 SK SK2
        obtain ⟨bxa11, bxb11⟩ := HBX.out w11 (by repeat (first | exact Ext.refl _ | assumption | refine Ext.alloc ?_ _ | refine Ext.drew ?_ | refine Ext.drewN ?_ _ | refine Ext.setCell ?_ (by first | exact Nat.le_refl _ | (simp; done) | (dsimp only; omega) | (simp only [World.size_alloc, World.size_setCell]; omega)) _ | refine Ext.trans ?_ (by assumption)))
        obtain ⟨bya11, byb11⟩ := HBY.out w11 (by repeat (first | exact Ext.refl _ | assumption | refine Ext.alloc ?_ _ | refine Ext.drew ?_ | refine Ext.drewN ?_ _ | refine Ext.setCell ?_ (by first | exact Nat.le_refl _ | (simp; done) | (dsimp only; omega) | (simp only [World.size_alloc, World.size_setCell]; omega)) _ | refine Ext.trans ?_ (by assumption)))
        clear bxa9 bxb9 bya9 byb9
        go_wp2_with (fail)
        refine (toFogS_any _ n1 z1 _ (r1.ext (by repeat (first | exact Ext.refl _ | assumption | refine Ext.alloc ?_ _ | refine Ext.drew ?_ | refine Ext.drewN ?_ _ | refine Ext.setCell ?_ (by first | exact Nat.le_refl _ | (simp; done) | (dsimp only; omega) | (simp only [World.size_alloc, World.size_setCell]; omega)) _ | refine Ext.trans ?_ (by assumption)))) hm1).mono ?_
        rintro e w12 ⟨g12, rfl, hr12, hb12⟩
        obtain ⟨bxa12, bxb12⟩ := HBX.out w12 (by repeat (first | exact Ext.refl _ | assumption | refine Ext.alloc ?_ _ | refine Ext.drew ?_ | refine Ext.drewN ?_ _ | refine Ext.setCell ?_ (by first | exact Nat.le_refl _ | (simp; done) | (dsimp only; omega) | (simp only [World.size_alloc, World.size_setCell]; omega)) _ | refine Ext.trans ?_ (by assumption)))
        obtain ⟨bya12, byb12⟩ := HBY.out w12 (by repeat (first | exact Ext.refl _ | assumption | refine Ext.alloc ?_ _ | refine Ext.drew ?_ | refine Ext.drewN ?_ _ | refine Ext.setCell ?_ (by first | exact Nat.le_refl _ | (simp; done) | (dsimp only; omega) | (simp only [World.size_alloc, World.size_setCell]; omega)) _ | refine Ext.trans ?_ (by assumption)))
        clear bxa11 bxb11 bya11 byb11
        go_wp2_with (fail)
        refine (eqFogS_same _ _ n1 z1 _ (row_ints (row_ext hr6 (by repeat (first | exact Ext.refl _ | assumption | refine Ext.alloc ?_ _ | refine Ext.drew ?_ | refine Ext.drewN ?_ _ | refine Ext.setCell ?_ (by first | exact Nat.le_refl _ | (simp; done) | (dsimp only; omega) | (simp only [World.size_alloc, World.size_setCell]; omega)) _ | refine Ext.trans ?_ (by assumption)))) (by unfold maxLen; omega) HW1.out) (row_ints (row_ext hr12 (by repeat (first | exact Ext.refl _ | assumption | refine Ext.alloc ?_ _ | refine Ext.drew ?_ | refine Ext.drewN ?_ _ | refine Ext.setCell ?_ (by first | exact Nat.le_refl _ | (simp; done) | (dsimp only; omega) | (simp only [World.size_alloc, World.size_setCell]; omega)) _ | refine Ext.trans ?_ (by assumption)))) (by unfold maxLen; omega) HW1.out)).mono ?_
        rintro e w13 ⟨rfl, hb13⟩
        obtain ⟨bxa13, bxb13⟩ := HBX.out w13 (by repeat (first | exact Ext.refl _ | assumption | refine Ext.alloc ?_ _ | refine Ext.drew ?_ | refine Ext.drewN ?_ _ | refine Ext.setCell ?_ (by first | exact Nat.le_refl _ | (simp; done) | (dsimp only; omega) | (simp only [World.size_alloc, World.size_setCell]; omega)) _ | refine Ext.trans ?_ (by assumption)))
        obtain ⟨bya13, byb13⟩ := HBY.out w13 (by repeat (first | exact Ext.refl _ | assumption | refine Ext.alloc ?_ _ | refine Ext.drew ?_ | refine Ext.drewN ?_ _ | refine Ext.setCell ?_ (by first | exact Nat.le_refl _ | (simp; done) | (dsimp only; omega) | (simp only [World.size_alloc, World.size_setCell]; omega)) _ | refine Ext.trans ?_ (by assumption)))
        clear bxa12 bxb12 bya12 byb12
        go_wp2_with (fail)
        refine (toPacketS_any _ n3 z3 Y3 _ (r3.ext (by repeat (first | exact Ext.refl _ | assumption | refine Ext.alloc ?_ _ | refine Ext.drew ?_ | refine Ext.drewN ?_ _ | refine Ext.setCell ?_ (by first | exact Nat.le_refl _ | (simp; done) | (dsimp only; omega) | (simp only [World.size_alloc, World.size_setCell]; omega)) _ | refine Ext.trans ?_ (by assumption)))) hms3).mono ?_
        rintro e w14 ⟨G14, f14, rfl, hr14, hb14⟩
        obtain ⟨bxa14, bxb14⟩ := HBX.out w14 (by repeat (first | exact Ext.refl _ | assumption | refine Ext.alloc ?_ _ | refine Ext.drew ?_ | refine Ext.drewN ?_ _ | refine Ext.setCell ?_ (by first | exact Nat.le_refl _ | (simp; done) | (dsimp only; omega) | (simp only [World.size_alloc, World.size_setCell]; omega)) _ | refine Ext.trans ?_ (by assumption)))
        obtain ⟨bya14, byb14⟩ := HBY.out w14 (by repeat (first | exact Ext.refl _ | assumption | refine Ext.alloc ?_ _ | refine Ext.drew ?_ | refine Ext.drewN ?_ _ | refine Ext.setCell ?_ (by first | exact Nat.le_refl _ | (simp; done) | (dsimp only; omega) | (simp only [World.size_alloc, World.size_setCell]; omega)) _ | refine Ext.trans ?_ (by assumption)))
        clear bxa13 bxb13 bya13 byb13
        go_wp2_with (fail)
        refine (eqPacketS_same _ _ n3 z3 Y3 _ ((OwnPk.ext hr7 (by repeat (first | exact Ext.refl _ | assumption | refine Ext.alloc ?_ _ | refine Ext.drew ?_ | refine Ext.drewN ?_ _ | refine Ext.setCell ?_ (by first | exact Nat.le_refl _ | (simp; done) | (dsimp only; omega) | (simp only [World.size_alloc, World.size_setCell]; omega)) _ | refine Ext.trans ?_ (by assumption)))).pk HZ3.out HZS3.out (by unfold maxLen; omega) HW3.out HS3.out) ((OwnPk.ext hr14 (by repeat (first | exact Ext.refl _ | assumption | refine Ext.alloc ?_ _ | refine Ext.drew ?_ | refine Ext.drewN ?_ _ | refine Ext.setCell ?_ (by first | exact Nat.le_refl _ | (simp; done) | (dsimp only; omega) | (simp only [World.size_alloc, World.size_setCell]; omega)) _ | refine Ext.trans ?_ (by assumption)))).pk HZ3.out HZS3.out (by unfold maxLen; omega) HW3.out HS3.out)).mono ?_
        rintro e w15 ⟨rfl, hb15⟩
        obtain ⟨bxa15, bxb15⟩ := HBX.out w15 (by repeat (first | exact Ext.refl _ | assumption | refine Ext.alloc ?_ _ | refine Ext.drew ?_ | refine Ext.drewN ?_ _ | refine Ext.setCell ?_ (by first | exact Nat.le_refl _ | (simp; done) | (dsimp only; omega) | (simp only [World.size_alloc, World.size_setCell]; omega)) _ | refine Ext.trans ?_ (by assumption)))
        obtain ⟨bya15, byb15⟩ := HBY.out w15 (by repeat (first | exact Ext.refl _ | assumption | refine Ext.alloc ?_ _ | refine Ext.drew ?_ | refine Ext.drewN ?_ _ | refine Ext.setCell ?_ (by first | exact Nat.le_refl _ | (simp; done) | (dsimp only; omega) | (simp only [World.size_alloc, World.size_setCell]; omega)) _ | refine Ext.trans ?_ (by assumption)))
        clear bxa14 bxb14 bya14 byb14
        have hrw15 := row_ext hrw ((by repeat (first | exact Ext.refl _ | assumption | refine Ext.alloc ?_ _ | refine Ext.drew ?_ | refine Ext.drewN ?_ _ | refine Ext.setCell ?_ (by first | exact Nat.le_refl _ | (simp; done) | (dsimp only; omega) | (simp only [World.size_alloc, World.size_setCell]; omega)) _ | refine Ext.trans ?_ (by assumption))) : Ext w4 w15)
        have hrg15 := row_ext hrg ((by repeat (first | exact Ext.refl _ | assumption | refine Ext.alloc ?_ _ | refine Ext.drew ?_ | refine Ext.drewN ?_ _ | refine Ext.setCell ?_ (by first | exact Nat.le_refl _ | (simp; done) | (dsimp only; omega) | (simp only [World.size_alloc, World.size_setCell]; omega)) _ | refine Ext.trans ?_ (by assumption))) : Ext w8 w15)
        have ha0 := OwnNet.ext hr5 ((by repeat (first | exact Ext.refl _ | assumption | refine Ext.alloc ?_ _ | refine Ext.drew ?_ | refine Ext.drewN ?_ _ | refine Ext.setCell ?_ (by first | exact Nat.le_refl _ | (simp; done) | (dsimp only; omega) | (simp only [World.size_alloc, World.size_setCell]; omega)) _ | refine Ext.trans ?_ (by assumption))) : Ext w5 w15)
        have ha1 := row_ext hr6 ((by repeat (first | exact Ext.refl _ | assumption | refine Ext.alloc ?_ _ | refine Ext.drew ?_ | refine Ext.drewN ?_ _ | refine Ext.setCell ?_ (by first | exact Nat.le_refl _ | (simp; done) | (dsimp only; omega) | (simp only [World.size_alloc, World.size_setCell]; omega)) _ | refine Ext.trans ?_ (by assumption))) : Ext w6 w15)
        have ha3 := OwnPk.ext hr7 ((by repeat (first | exact Ext.refl _ | assumption | refine Ext.alloc ?_ _ | refine Ext.drew ?_ | refine Ext.drewN ?_ _ | refine Ext.setCell ?_ (by first | exact Nat.le_refl _ | (simp; done) | (dsimp only; omega) | (simp only [World.size_alloc, World.size_setCell]; omega)) _ | refine Ext.trans ?_ (by assumption))) : Ext w7 w15)
        have hSZ0 : w4.heap.size ≤ wy.heap.size := ((by repeat (first | exact Ext.refl _ | assumption | refine Ext.alloc ?_ _ | refine Ext.drew ?_ | refine Ext.drewN ?_ _ | refine Ext.setCell ?_ (by first | exact Nat.le_refl _ | (simp; done) | (dsimp only; omega) | (simp only [World.size_alloc, World.size_setCell]; omega)) _ | refine Ext.trans ?_ (by assumption))) : Ext w4 wy).size
        have hSZ1 : wy.heap.size ≤ w6.heap.size := ((by repeat (first | exact Ext.refl _ | assumption | refine Ext.alloc ?_ _ | refine Ext.drew ?_ | refine Ext.drewN ?_ _ | refine Ext.setCell ?_ (by first | exact Nat.le_refl _ | (simp; done) | (dsimp only; omega) | (simp only [World.size_alloc, World.size_setCell]; omega)) _ | refine Ext.trans ?_ (by assumption))) : Ext wy w6).size
        have hSZ2 : w6.heap.size ≤ w7.heap.size := ((by repeat (first | exact Ext.refl _ | assumption | refine Ext.alloc ?_ _ | refine Ext.drew ?_ | refine Ext.drewN ?_ _ | refine Ext.setCell ?_ (by first | exact Nat.le_refl _ | (simp; done) | (dsimp only; omega) | (simp only [World.size_alloc, World.size_setCell]; omega)) _ | refine Ext.trans ?_ (by assumption))) : Ext w6 w7).size
        have hSZa : w0.heap.size ≤ w4.heap.size := ((by repeat (first | exact Ext.refl _ | assumption | refine Ext.alloc ?_ _ | refine Ext.drew ?_ | refine Ext.drewN ?_ _ | refine Ext.setCell ?_ (by first | exact Nat.le_refl _ | (simp; done) | (dsimp only; omega) | (simp only [World.size_alloc, World.size_setCell]; omega)) _ | refine Ext.trans ?_ (by assumption))) : Ext w0 w4).size
        have hE15 : Ext w0 w15 := (by repeat (first | exact Ext.refl _ | assumption | refine Ext.alloc ?_ _ | refine Ext.drew ?_ | refine Ext.drewN ?_ _ | refine Ext.setCell ?_ (by first | exact Nat.le_refl _ | (simp; done) | (dsimp only; omega) | (simp only [World.size_alloc, World.size_setCell]; omega)) _ | refine Ext.trans ?_ (by assumption)))
        obtain ⟨S0, hS0⟩ : ∃ n, n = w4.heap.size := ⟨_, rfl⟩
        obtain ⟨S1, hS1⟩ : ∃ n, n = wy.heap.size := ⟨_, rfl⟩
        obtain ⟨S2, hS2⟩ : ∃ n, n = w6.heap.size := ⟨_, rfl⟩
        obtain ⟨S3, hS3⟩ : ∃ n, n = w7.heap.size := ⟨_, rfl⟩
        have hz1 : w0.heap.size ≤ S0 := by rw [hS0]; exact hSZa
        have hSS0 : S0 ≤ S1 := by rw [hS0, hS1]; exact hSZ0
        have hSS1 : S1 ≤ S2 := by rw [hS1, hS2]; exact hSZ1
        have hSS2 : S2 ≤ S3 := by rw [hS2, hS3]; exact hSZ2
        have HHLW : Hid (∀ k, vw.ownBlock = some k → k < S0) := hid (fun k hk => by rw [hS0]; exact (hrw.lt k hk).2)
        have HHLG : Hid (∀ k, vg.ownBlock = some k → S3 ≤ k) := hid (fun k hk => by rw [hS3]; exact (hrg.lt k hk).1)
        have hh0 : ∀ gT2 gL2, Value.agg #[.slice (some ⟨gT, 0, none⟩) nT0 nT0, .slice (some ⟨gL, 0, none⟩) nL0 nL0] = .agg #[.slice (some ⟨gT2, 0, none⟩) nT0 nT0, .slice (some ⟨gL2, 0, none⟩) nL0 nL0] → gL2 < S1 := fun gT2 gL2 hx => by rw [hS1]; exact Nat.lt_of_lt_of_le (hr5.hi gT2 gL2 hx) e5y.size
        have HH0 := hid hh0
        clear hh0
        rw [← hS0] at ha0
        have hh1 : S1 ≤ g6 ∧ g6 < S2 := by rw [hS1, hS2]; exact hr6.lt g6 rfl
        rw [← hS1] at ha1
        have HHP3 := hid (show G7 < S3 ∧ ∀ k, k < n3 → f7 k < S3 by rw [hS3]; exact ⟨hr7.lt.2.1, fun k hk => (hr7.lt.2.2 k hk).2⟩)
        rw [← hS2] at ha3
        rw [← hS3] at hrg15
        clear hS0 hS1 hS2 hS3 hSZ0 hSZ1 hSZ2 hSZa hrw hrg hb1 hb2 hb3 hb4 hb5 hb6 hb7 hb8 hb9 hb10 hb11 hb12 hb13 hb14 hb15 hr1 hr2 hr3 hr5 hr6 hr7
        go_wp2_with (fail)
        refine (markNet_any _ nT0 zT0 nL0 zL0 S0 S1 _ 1 ha0 HH0.out (by omega) (by omega) (by omega) (by omega)).mono ?_
        rintro e w16 ⟨rfl, hc16⟩
        have hE16 : Ext w0 w16 := hE15.of_chg hc16 (by omega)
        have hrw16 := row_chg hrw15 hc16 (fun k hk => .inl (by have := HHLW.out k hk; omega))
        have hrg16 := row_chg hrg15 hc16 (fun k hk => .inr (by have := HHLG.out k hk; omega))
        replace ha1 := row_chg ha1 hc16 (fun k hk => .inr (by have := (ha1.lt k hk).1; omega))
        replace ha3 := OwnPk.chg ha3 hc16 (by omega)
        obtain ⟨bxa16, bxb16⟩ := HBX.out w16 (by repeat (first | exact Ext.refl _ | assumption | refine Ext.alloc ?_ _ | refine Ext.drew ?_ | refine Ext.drewN ?_ _ | refine Ext.setCell ?_ (by first | exact Nat.le_refl _ | (simp; done) | (dsimp only; omega) | (simp only [World.size_alloc, World.size_setCell]; omega)) _ | refine Ext.trans ?_ (by assumption)))
        clear bxa15 bxb15 bya15 byb15
        clear ha0 hc16 hrw15 hrg15 hE15
        go_wp2_with (fail)
        refine (markFogS_any _ n1 _ S1 _ (1 + 3 * nT0 + 3 * nL0) ha1 (by omega) (by omega) (by omega)).mono ?_
        rintro e w17 ⟨rfl, hrx17, hc17⟩
        have hc17 := Chg.of_grown (lo := S1) (hi := S2) hc17 (fun k hk => by simp [Value.ownBlock] at hk; omega)
        clear hrx17
        have hE17 : Ext w0 w17 := hE16.of_chg hc17 (by omega)
        have hrw17 := row_chg hrw16 hc17 (fun k hk => .inl (by have := HHLW.out k hk; omega))
        have hrg17 := row_chg hrg16 hc17 (fun k hk => .inr (by have := HHLG.out k hk; omega))
        replace ha3 := OwnPk.chg ha3 hc17 (by omega)
        obtain ⟨bxa17, bxb17⟩ := HBX.out w17 (by repeat (first | exact Ext.refl _ | assumption | refine Ext.alloc ?_ _ | refine Ext.drew ?_ | refine Ext.drewN ?_ _ | refine Ext.setCell ?_ (by first | exact Nat.le_refl _ | (simp; done) | (dsimp only; omega) | (simp only [World.size_alloc, World.size_setCell]; omega)) _ | refine Ext.trans ?_ (by assumption)))
        clear bxa16 bxb16
        clear ha1 hc17 hrw16 hrg16 hE16
        go_wp2_with (fail)
        refine (markPacketS_any n3 z3 Y3 S2 S3 G7 f7 _ ((1 + 3 * nT0 + 3 * nL0) + 3 * n1) ha3 HHP3.out.1 HHP3.out.2 hms3 (by omega) (by omega)).mono ?_
        rintro e w18 ⟨rfl, hc18⟩
        have hE18 : Ext w0 w18 := hE17.of_chg hc18 (by omega)
        have hrw18 := row_chg hrw17 hc18 (fun k hk => .inl (by have := HHLW.out k hk; omega))
        have hrg18 := row_chg hrg17 hc18 (fun k hk => .inr (by have := HHLG.out k hk; omega))
        obtain ⟨bxa18, bxb18⟩ := HBX.out w18 (by repeat (first | exact Ext.refl _ | assumption | refine Ext.alloc ?_ _ | refine Ext.drew ?_ | refine Ext.drewN ?_ _ | refine Ext.setCell ?_ (by first | exact Nat.le_refl _ | (simp; done) | (dsimp only; omega) | (simp only [World.size_alloc, World.size_setCell]; omega)) _ | refine Ext.trans ?_ (by assumption)))
        clear bxa17 bxb17
        clear ha3 hc18 hrw17 hrg17 hE17
        go_wp2_with (fail)
        refine (eqIntS_same _ _ (L.length / 1) L _ (row_ints (row_ext hrg18 (by repeat (first | exact Ext.refl _ | assumption | refine Ext.alloc ?_ _ | refine Ext.drew ?_ | refine Ext.drewN ?_ _ | refine Ext.setCell ?_ (by first | exact Nat.le_refl _ | (simp; done) | (dsimp only; omega) | (simp only [World.size_alloc, World.size_setCell]; omega)) _ | refine Ext.trans ?_ (by assumption)))) (by unfold maxLen; omega) HLW.out) (row_ints (row_ext hrw18 (by repeat (first | exact Ext.refl _ | assumption | refine Ext.alloc ?_ _ | refine Ext.drew ?_ | refine Ext.drewN ?_ _ | refine Ext.setCell ?_ (by first | exact Nat.le_refl _ | (simp; done) | (dsimp only; omega) | (simp only [World.size_alloc, World.size_setCell]; omega)) _ | refine Ext.trans ?_ (by assumption)))) (by unfold maxLen; omega) HLW.out)).mono ?_
        rintro e w19 ⟨rfl, hb19⟩
        obtain ⟨bxa19, bxb19⟩ := HBX.out w19 (by repeat (first | exact Ext.refl _ | assumption | refine Ext.alloc ?_ _ | refine Ext.drew ?_ | refine Ext.drewN ?_ _ | refine Ext.setCell ?_ (by first | exact Nat.le_refl _ | (simp; done) | (dsimp only; omega) | (simp only [World.size_alloc, World.size_setCell]; omega)) _ | refine Ext.trans ?_ (by assumption)))
        clear bxa18 bxb18
        have hE19 : Ext w0 w19 := hE18.trans hb19
        have hrw19 := row_ext hrw18 hb19
        have hrg19 := row_ext hrg18 hb19
        clear hb19 hrw18 hrg18
        go_wp2_with (fail)
        refine (markIntS_any _ _ _ S3 _ 1 hrg19 (by omega) (by omega) (by omega)).mono ?_
        rintro e w20 ⟨rfl, hrm, hg20⟩
        have hE20 : Ext w0 w20 := hE19.of_grownAt hg20 (fun k hk => by have := HHLG.out k hk; omega)
        have hrw20 := row_below (B := S0) hrw19 HHLW.out hg20 (fun k hk => by have := HHLG.out k hk; omega)
        clear hg20 hrw19 hrg19
        obtain ⟨bxa20, bxb20⟩ := HBX.out w20 (by repeat (first | exact Ext.refl _ | assumption | refine Ext.alloc ?_ _ | refine Ext.drew ?_ | refine Ext.drewN ?_ _ | refine Ext.setCell ?_ (by first | exact Nat.le_refl _ | (simp; done) | (dsimp only; omega) | (simp only [World.size_alloc, World.size_setCell]; omega)) _ | refine Ext.trans ?_ (by assumption)))
        clear bxa19 bxb19
        go_wp2_with (fail)
        refine (heldIntS_same _ (L.length / 1) _ 1 (row_ints (row_ext hrm (by repeat (first | exact Ext.refl _ | assumption | refine Ext.alloc ?_ _ | refine Ext.drew ?_ | refine Ext.drewN ?_ _ | refine Ext.setCell ?_ (by first | exact Nat.le_refl _ | (simp; done) | (dsimp only; omega) | (simp only [World.size_alloc, World.size_setCell]; omega)) _ | refine Ext.trans ?_ (by assumption)))) (by unfold maxLen; omega) (marks_wf (by omega) (by omega))) (by omega) (by omega) (by omega)).mono ?_
        rintro e w21 ⟨rfl, hb21⟩
        obtain ⟨bxa21, bxb21⟩ := HBX.out w21 (by repeat (first | exact Ext.refl _ | assumption | refine Ext.alloc ?_ _ | refine Ext.drew ?_ | refine Ext.drewN ?_ _ | refine Ext.setCell ?_ (by first | exact Nat.le_refl _ | (simp; done) | (dsimp only; omega) | (simp only [World.size_alloc, World.size_setCell]; omega)) _ | refine Ext.trans ?_ (by assumption)))
        clear bxa20 bxb20
        go_wp2_with (fail)
        refine (toNet_any _ nT0 nL0 zT0 zL0 _ (r0.ext (by repeat (first | exact Ext.refl _ | assumption | refine Ext.alloc ?_ _ | refine Ext.drew ?_ | refine Ext.drewN ?_ _ | refine Ext.setCell ?_ (by first | exact Nat.le_refl _ | (simp; done) | (dsimp only; omega) | (simp only [World.size_alloc, World.size_setCell]; omega)) _ | refine Ext.trans ?_ (by assumption)))) hnT0 hnL0).mono ?_
        rintro e w22 ⟨x22, rfl, hr22, hb22⟩
        obtain ⟨bxa22, bxb22⟩ := HBX.out w22 (by repeat (first | exact Ext.refl _ | assumption | refine Ext.alloc ?_ _ | refine Ext.drew ?_ | refine Ext.drewN ?_ _ | refine Ext.setCell ?_ (by first | exact Nat.le_refl _ | (simp; done) | (dsimp only; omega) | (simp only [World.size_alloc, World.size_setCell]; omega)) _ | refine Ext.trans ?_ (by assumption)))
        clear bxa21 bxb21
        go_wp2_with (fail)
        refine (toFogS_any _ n1 z1 _ (r1.ext (by repeat (first | exact Ext.refl _ | assumption | refine Ext.alloc ?_ _ | refine Ext.drew ?_ | refine Ext.drewN ?_ _ | refine Ext.setCell ?_ (by first | exact Nat.le_refl _ | (simp; done) | (dsimp only; omega) | (simp only [World.size_alloc, World.size_setCell]; omega)) _ | refine Ext.trans ?_ (by assumption)))) hm1).mono ?_
        rintro e w23 ⟨g23, rfl, hr23, hb23⟩
        obtain ⟨bxa23, bxb23⟩ := HBX.out w23 (by repeat (first | exact Ext.refl _ | assumption | refine Ext.alloc ?_ _ | refine Ext.drew ?_ | refine Ext.drewN ?_ _ | refine Ext.setCell ?_ (by first | exact Nat.le_refl _ | (simp; done) | (dsimp only; omega) | (simp only [World.size_alloc, World.size_setCell]; omega)) _ | refine Ext.trans ?_ (by assumption)))
        clear bxa22 bxb22
        go_wp2_with (fail)
        refine (toPacketS_any _ n3 z3 Y3 _ (r3.ext (by repeat (first | exact Ext.refl _ | assumption | refine Ext.alloc ?_ _ | refine Ext.drew ?_ | refine Ext.drewN ?_ _ | refine Ext.setCell ?_ (by first | exact Nat.le_refl _ | (simp; done) | (dsimp only; omega) | (simp only [World.size_alloc, World.size_setCell]; omega)) _ | refine Ext.trans ?_ (by assumption)))) hms3).mono ?_
        rintro e w24 ⟨G24, f24, rfl, hr24, hb24⟩
        obtain ⟨bxa24, bxb24⟩ := HBX.out w24 (by repeat (first | exact Ext.refl _ | assumption | refine Ext.alloc ?_ _ | refine Ext.drew ?_ | refine Ext.drewN ?_ _ | refine Ext.setCell ?_ (by first | exact Nat.le_refl _ | (simp; done) | (dsimp only; omega) | (simp only [World.size_alloc, World.size_setCell]; omega)) _ | refine Ext.trans ?_ (by assumption)))
        clear bxa23 bxb23
        go_wp2_with (fail)
        refine (iHoldPackets_any _ nT0 zT0 nL0 zL0 _ n1 z1 a2 _ n3 z3 Y3 a4 _ ((OwnNet.ext hr22 (by repeat (first | exact Ext.refl _ | assumption | refine Ext.alloc ?_ _ | refine Ext.drew ?_ | refine Ext.drewN ?_ _ | refine Ext.setCell ?_ (by first | exact Nat.le_refl _ | (simp; done) | (dsimp only; omega) | (simp only [World.size_alloc, World.size_setCell]; omega)) _ | refine Ext.trans ?_ (by assumption)))).net (by unfold maxLen; omega) (by unfold maxLen; omega) HWT0.out HWL0.out) (row_ints (row_ext hr23 (by repeat (first | exact Ext.refl _ | assumption | refine Ext.alloc ?_ _ | refine Ext.drew ?_ | refine Ext.drewN ?_ _ | refine Ext.setCell ?_ (by first | exact Nat.le_refl _ | (simp; done) | (dsimp only; omega) | (simp only [World.size_alloc, World.size_setCell]; omega)) _ | refine Ext.trans ?_ (by assumption)))) (by unfold maxLen; omega) HW1.out) ((OwnPk.ext hr24 (by repeat (first | exact Ext.refl _ | assumption | refine Ext.alloc ?_ _ | refine Ext.drew ?_ | refine Ext.drewN ?_ _ | refine Ext.setCell ?_ (by first | exact Nat.le_refl _ | (simp; done) | (dsimp only; omega) | (simp only [World.size_alloc, World.size_setCell]; omega)) _ | refine Ext.trans ?_ (by assumption)))).pk HZ3.out HZS3.out (by unfold maxLen; omega) HW3.out HS3.out)).mono ?_
        rintro e w25 ⟨vh, rfl, hrh, hb25⟩
        obtain ⟨bxa25, bxb25⟩ := HBX.out w25 (by repeat (first | exact Ext.refl _ | assumption | refine Ext.alloc ?_ _ | refine Ext.drew ?_ | refine Ext.drewN ?_ _ | refine Ext.setCell ?_ (by first | exact Nat.le_refl _ | (simp; done) | (dsimp only; omega) | (simp only [World.size_alloc, World.size_setCell]; omega)) _ | refine Ext.trans ?_ (by assumption)))
        clear bxa24 bxb24
        rw [← HL.out] at hrh
        go_wp2_with (fail)
        refine (eqIntS_same _ _ (L.length / 1) L _ (row_ints (row_ext hrh (by repeat (first | exact Ext.refl _ | assumption | refine Ext.alloc ?_ _ | refine Ext.drew ?_ | refine Ext.drewN ?_ _ | refine Ext.setCell ?_ (by first | exact Nat.le_refl _ | (simp; done) | (dsimp only; omega) | (simp only [World.size_alloc, World.size_setCell]; omega)) _ | refine Ext.trans ?_ (by assumption)))) (by unfold maxLen; omega) HLW.out) (row_ints (row_ext hrw20 (by repeat (first | exact Ext.refl _ | assumption | refine Ext.alloc ?_ _ | refine Ext.drew ?_ | refine Ext.drewN ?_ _ | refine Ext.setCell ?_ (by first | exact Nat.le_refl _ | (simp; done) | (dsimp only; omega) | (simp only [World.size_alloc, World.size_setCell]; omega)) _ | refine Ext.trans ?_ (by assumption)))) (by unfold maxLen; omega) HLW.out)).mono ?_
        rintro e w26 ⟨rfl, hb26⟩
        obtain ⟨bxa26, bxb26⟩ := HBX.out w26 (by repeat (first | exact Ext.refl _ | assumption | refine Ext.alloc ?_ _ | refine Ext.drew ?_ | refine Ext.drewN ?_ _ | refine Ext.setCell ?_ (by first | exact Nat.le_refl _ | (simp; done) | (dsimp only; omega) | (simp only [World.size_alloc, World.size_setCell]; omega)) _ | refine Ext.trans ?_ (by assumption)))
        clear bxa25 bxb25
        go_wp2_with (fail)
        refine (heldIntS_same _ (L.length / 1) _ 1 (row_ints (row_ext hrm (by repeat (first | exact Ext.refl _ | assumption | refine Ext.alloc ?_ _ | refine Ext.drew ?_ | refine Ext.drewN ?_ _ | refine Ext.setCell ?_ (by first | exact Nat.le_refl _ | (simp; done) | (dsimp only; omega) | (simp only [World.size_alloc, World.size_setCell]; omega)) _ | refine Ext.trans ?_ (by assumption)))) (by unfold maxLen; omega) (marks_wf (by omega) (by omega))) (by omega) (by omega) (by omega)).mono ?_
        rintro e w27 ⟨rfl, hb27⟩
        obtain ⟨bxa27, bxb27⟩ := HBX.out w27 (by repeat (first | exact Ext.refl _ | assumption | refine Ext.alloc ?_ _ | refine Ext.drew ?_ | refine Ext.drewN ?_ _ | refine Ext.setCell ?_ (by first | exact Nat.le_refl _ | (simp; done) | (dsimp only; omega) | (simp only [World.size_alloc, World.size_setCell]; omega)) _ | refine Ext.trans ?_ (by assumption)))
        clear bxa26 bxb26
        go_wp2_with (fail)
        go_ret
        exact ⟨rfl, (by repeat (first | exact Ext.refl _ | assumption | refine Ext.alloc ?_ _ | refine Ext.drew ?_ | refine Ext.drewN ?_ _ | refine Ext.setCell ?_ (by first | exact Nat.le_refl _ | (simp; done) | (dsimp only; omega) | (simp only [World.size_alloc, World.size_setCell]; omega)) _ | refine Ext.trans ?_ (by assumption)))⟩
      · rw [if_neg hn3] at hsz3
        have HQ0 := hid hq0
        clear hq0
        have HQ1 := hid hq1
        clear hq1
        go_enter Try.func13, Try.ntmps13
        go_wp2_with (fail)
        have e00 : Ext w (w.alloc (.cells #[vT0, vL0] 25)) := (Ext.refl w).alloc _
        have bp0 : (w.alloc (.cells #[vT0, vL0] 25)).cell? ⟨w.heap.size, 0, none⟩ = some vT0 := by simp [go_sem]
        have bp1 : (w.alloc (.cells #[vT0, vL0] 25)).cell? ⟨w.heap.size, 1, none⟩ = some vL0 := by simp [go_sem]
        have bgs : w.heap.size < (w.alloc (.cells #[vT0, vL0] 25)).heap.size := by simp
        generalize (w.alloc (.cells #[vT0, vL0] 25)) = w0 at *
        obtain ⟨bg, hbg⟩ : ∃ g, g = w.heap.size := ⟨_, rfl⟩
        rw [← hbg] at bp0 bp1 bgs ⊢
        have HBX := hid (fun (W : World) (hW : Ext w0 W) => show W.cell? ⟨bg, 0, none⟩ = some vT0 ∧ W.cell? ⟨bg, 1, none⟩ = some vL0 from ⟨by rw [(Ext.cells hW).1 _ _ bgs]; exact bp0, by rw [(Ext.cells hW).1 _ _ bgs]; exact bp1⟩)
        clear hbg
        go_wp2_with (fail)
        refine (hsz0 _ (by repeat (first | exact Ext.refl _ | assumption | refine Ext.alloc ?_ _ | refine Ext.drew ?_ | refine Ext.drewN ?_ _ | refine Ext.setCell ?_ (by first | exact Nat.le_refl _ | (simp; done) | (dsimp only; omega) | (simp only [World.size_alloc, World.size_setCell]; omega)) _ | refine Ext.trans ?_ (by assumption)))).mono ?_
        rintro e wz ⟨rfl, hbz⟩
        clear bp0 bp1
        obtain ⟨bxa, bxb⟩ := HBX.out wz (by repeat (first | exact Ext.refl _ | assumption | refine Ext.alloc ?_ _ | refine Ext.drew ?_ | refine Ext.drewN ?_ _ | refine Ext.setCell ?_ (by first | exact Nat.le_refl _ | (simp; done) | (dsimp only; omega) | (simp only [World.size_alloc, World.size_setCell]; omega)) _ | refine Ext.trans ?_ (by assumption)))
        clear hsz0
        go_wp2_with (fail)
        refine (hsz1 _ (by repeat (first | exact Ext.refl _ | assumption | refine Ext.alloc ?_ _ | refine Ext.drew ?_ | refine Ext.drewN ?_ _ | refine Ext.setCell ?_ (by first | exact Nat.le_refl _ | (simp; done) | (dsimp only; omega) | (simp only [World.size_alloc, World.size_setCell]; omega)) _ | refine Ext.trans ?_ (by assumption)))).mono ?_
        rintro e w' ⟨rfl, rfl⟩
        clear hsz1
        go_wp2_with (fail)
        refine (hsz3 _ (by repeat (first | exact Ext.refl _ | assumption | refine Ext.alloc ?_ _ | refine Ext.drew ?_ | refine Ext.drewN ?_ _ | refine Ext.setCell ?_ (by first | exact Nat.le_refl _ | (simp; done) | (dsimp only; omega) | (simp only [World.size_alloc, World.size_setCell]; omega)) _ | refine Ext.trans ?_ (by assumption)))).mono ?_
        rintro e wv3 ⟨rfl, hbv3⟩
        clear bxa bxb
        obtain ⟨bxa, bxb⟩ := HBX.out wv3 (by repeat (first | exact Ext.refl _ | assumption | refine Ext.alloc ?_ _ | refine Ext.drew ?_ | refine Ext.drewN ?_ _ | refine Ext.setCell ?_ (by first | exact Nat.le_refl _ | (simp; done) | (dsimp only; omega) | (simp only [World.size_alloc, World.size_setCell]; omega)) _ | refine Ext.trans ?_ (by assumption)))
        clear hsz3
        go_wp2_with (fail)
        go_ret
        exact ⟨rfl, (by repeat (first | exact Ext.refl _ | assumption | refine Ext.alloc ?_ _ | refine Ext.drew ?_ | refine Ext.drewN ?_ _ | refine Ext.setCell ?_ (by first | exact Nat.le_refl _ | (simp; done) | (dsimp only; omega) | (simp only [World.size_alloc, World.size_setCell]; omega)) _ | refine Ext.trans ?_ (by assumption)))⟩
    · rw [if_neg hn1] at hsz1
      have HQ0 := hid hq0
      clear hq0
      go_enter Try.func13, Try.ntmps13
      go_wp2_with (fail)
      have e00 : Ext w (w.alloc (.cells #[vT0, vL0] 25)) := (Ext.refl w).alloc _
      have bp0 : (w.alloc (.cells #[vT0, vL0] 25)).cell? ⟨w.heap.size, 0, none⟩ = some vT0 := by simp [go_sem]
      have bp1 : (w.alloc (.cells #[vT0, vL0] 25)).cell? ⟨w.heap.size, 1, none⟩ = some vL0 := by simp [go_sem]
      have bgs : w.heap.size < (w.alloc (.cells #[vT0, vL0] 25)).heap.size := by simp
      generalize (w.alloc (.cells #[vT0, vL0] 25)) = w0 at *
      obtain ⟨bg, hbg⟩ : ∃ g, g = w.heap.size := ⟨_, rfl⟩
      rw [← hbg] at bp0 bp1 bgs ⊢
      have HBX := hid (fun (W : World) (hW : Ext w0 W) => show W.cell? ⟨bg, 0, none⟩ = some vT0 ∧ W.cell? ⟨bg, 1, none⟩ = some vL0 from ⟨by rw [(Ext.cells hW).1 _ _ bgs]; exact bp0, by rw [(Ext.cells hW).1 _ _ bgs]; exact bp1⟩)
      clear hbg
      go_wp2_with (fail)
      refine (hsz0 _ (by repeat (first | exact Ext.refl _ | assumption | refine Ext.alloc ?_ _ | refine Ext.drew ?_ | refine Ext.drewN ?_ _ | refine Ext.setCell ?_ (by first | exact Nat.le_refl _ | (simp; done) | (dsimp only; omega) | (simp only [World.size_alloc, World.size_setCell]; omega)) _ | refine Ext.trans ?_ (by assumption)))).mono ?_
      rintro e wz ⟨rfl, hbz⟩
      clear bp0 bp1
      obtain ⟨bxa, bxb⟩ := HBX.out wz (by repeat (first | exact Ext.refl _ | assumption | refine Ext.alloc ?_ _ | refine Ext.drew ?_ | refine Ext.drewN ?_ _ | refine Ext.setCell ?_ (by first | exact Nat.le_refl _ | (simp; done) | (dsimp only; omega) | (simp only [World.size_alloc, World.size_setCell]; omega)) _ | refine Ext.trans ?_ (by assumption)))
      clear hsz0
      go_wp2_with (fail)
      refine (hsz1 _ (by repeat (first | exact Ext.refl _ | assumption | refine Ext.alloc ?_ _ | refine Ext.drew ?_ | refine Ext.drewN ?_ _ | refine Ext.setCell ?_ (by first | exact Nat.le_refl _ | (simp; done) | (dsimp only; omega) | (simp only [World.size_alloc, World.size_setCell]; omega)) _ | refine Ext.trans ?_ (by assumption)))).mono ?_
      rintro e w' ⟨rfl, rfl⟩
      clear hsz1
      go_wp2_with (fail)
      go_ret
      exact ⟨rfl, (by repeat (first | exact Ext.refl _ | assumption | refine Ext.alloc ?_ _ | refine Ext.drew ?_ | refine Ext.drewN ?_ _ | refine Ext.setCell ?_ (by first | exact Nat.le_refl _ | (simp; done) | (dsimp only; omega) | (simp only [World.size_alloc, World.size_setCell]; omega)) _ | refine Ext.trans ?_ (by assumption)))⟩
  · rw [if_neg hn0] at hsz0
    go_enter Try.func13, Try.ntmps13
    go_wp2_with (fail)
    have e00 : Ext w (w.alloc (.cells #[vT0, vL0] 25)) := (Ext.refl w).alloc _
    have bp0 : (w.alloc (.cells #[vT0, vL0] 25)).cell? ⟨w.heap.size, 0, none⟩ = some vT0 := by simp [go_sem]
    have bp1 : (w.alloc (.cells #[vT0, vL0] 25)).cell? ⟨w.heap.size, 1, none⟩ = some vL0 := by simp [go_sem]
    have bgs : w.heap.size < (w.alloc (.cells #[vT0, vL0] 25)).heap.size := by simp
    generalize (w.alloc (.cells #[vT0, vL0] 25)) = w0 at *
    obtain ⟨bg, hbg⟩ : ∃ g, g = w.heap.size := ⟨_, rfl⟩
    rw [← hbg] at bp0 bp1 bgs ⊢
    have HBX := hid (fun (W : World) (hW : Ext w0 W) => show W.cell? ⟨bg, 0, none⟩ = some vT0 ∧ W.cell? ⟨bg, 1, none⟩ = some vL0 from ⟨by rw [(Ext.cells hW).1 _ _ bgs]; exact bp0, by rw [(Ext.cells hW).1 _ _ bgs]; exact bp1⟩)
    clear hbg
    go_wp2_with (fail)
    refine (hsz0 _ (by repeat (first | exact Ext.refl _ | assumption | refine Ext.alloc ?_ _ | refine Ext.drew ?_ | refine Ext.drewN ?_ _ | refine Ext.setCell ?_ (by first | exact Nat.le_refl _ | (simp; done) | (dsimp only; omega) | (simp only [World.size_alloc, World.size_setCell]; omega)) _ | refine Ext.trans ?_ (by assumption)))).mono ?_
    rintro e wz ⟨rfl, hbz⟩
    clear bp0 bp1
    obtain ⟨bxa, bxb⟩ := HBX.out wz (by repeat (first | exact Ext.refl _ | assumption | refine Ext.alloc ?_ _ | refine Ext.drew ?_ | refine Ext.drewN ?_ _ | refine Ext.setCell ?_ (by first | exact Nat.le_refl _ | (simp; done) | (dsimp only; omega) | (simp only [World.size_alloc, World.size_setCell]; omega)) _ | refine Ext.trans ?_ (by assumption)))
    clear hsz0
    go_wp2_with (fail)
    go_ret
    exact ⟨rfl, (by repeat (first | exact Ext.refl _ | assumption | refine Ext.alloc ?_ _ | refine Ext.drew ?_ | refine Ext.drewN ?_ _ | refine Ext.setCell ?_ (by first | exact Nat.le_refl _ | (simp; done) | (dsimp only; omega) | (simp only [World.size_alloc, World.size_setCell]; omega)) _ | refine Ext.trans ?_ (by assumption)))⟩

end Go.Proofs.Ytlmfohjfbolhpaa