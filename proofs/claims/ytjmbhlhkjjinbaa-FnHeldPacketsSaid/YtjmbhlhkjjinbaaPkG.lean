/- Packets drawn. Condition: the code's length. Packets drawn: lists of them. Condition: the code's length. -/
import Derived.Test.YtjmbhlhkjjinbaaPkE
import Derived.Deep.CutBlock
import Derived.Deep.RegionHeld3
namespace Go.Proofs.Ytjmbhlhkjjinbaa
open Go.RowKit
set_option linter.unusedSimpArgs false
set_option linter.unusedVariables false

theorem SigO.nil (w : World) (base : Nat) : SigO w base (.slice none 0 0) [] := ⟨World.ownsRow_nil _ _ _ _, by simp, by simp⟩

/-- the four cells of a struct that lies in a block of its own -/
def Box4 (w : World) (b : Nat) (x0 x1 x2 x3 : Value) : Prop :=
  w.cell? ⟨b, 0, none⟩ = some x0 ∧ w.cell? ⟨b, 1, none⟩ = some x1 ∧ w.cell? ⟨b, 2, none⟩ = some x2 ∧ w.cell? ⟨b, 3, none⟩ = some x3 ∧ w.frozen? ⟨b, 0, none⟩ = false ∧ w.frozen? ⟨b, 1, none⟩ = false ∧ w.frozen? ⟨b, 2, none⟩ = false ∧ w.frozen? ⟨b, 3, none⟩ = false ∧ b < w.heap.size
theorem Box4.grown {w w' : World} {b : Nat} {r : Option Nat} {x0 x1 x2 x3 : Value} (h : Box4 w b x0 x1 x2 x3) (g : w.grownBy w' r) (hne : r ≠ some b) : Box4 w' b x0 x1 x2 x3 := by
  obtain ⟨h0, h1, h2, h3, f0, f1, f2, f3, h5⟩ := h
  have hn : some b ≠ r := fun e => hne e.symm
  refine ⟨World.grownBy.cell g h0 hn, World.grownBy.cell g h1 hn, World.grownBy.cell g h2 hn, World.grownBy.cell g h3 hn, ?_, ?_, ?_, ?_, Nat.lt_of_lt_of_le h5 g.size⟩
  · rw [World.grownBy.frozen_far g _ h5 hn]; exact f0
  · rw [World.grownBy.frozen_far g _ h5 hn]; exact f1
  · rw [World.grownBy.frozen_far g _ h5 hn]; exact f2
  · rw [World.grownBy.frozen_far g _ h5 hn]; exact f3
theorem Box4.ext {w w' : World} {b : Nat} {x0 x1 x2 x3 : Value} (h : Box4 w b x0 x1 x2 x3) (e : Ext w w') : Box4 w' b x0 x1 x2 x3 := h.grown e.grown (by simp)
theorem Box4.new (w : World) (x0 x1 x2 x3 : Value) (t : TypeId) : Box4 (w.alloc (.cells #[x0, x1, x2, x3] t)) w.heap.size x0 x1 x2 x3 := by
  refine ⟨by simp, by simp, by simp, by simp, by simp, by simp, by simp, by simp, by rw [World.size_alloc]; omega⟩
theorem Box4.set0 {w : World} {b : Nat} {x0 x1 x2 x3 : Value} (h : Box4 w b x0 x1 x2 x3) (y : Value) : Box4 (w.setCell ⟨b, 0, none⟩ y) b y x1 x2 x3 := by
  obtain ⟨h0, h1, h2, h3, f0, f1, f2, f3, h5⟩ := h
  refine ⟨World.cell?_setCell_same _ _ _ h0, ?_, ?_, ?_, ?_, ?_, ?_, ?_, by rw [World.size_setCell]; exact h5⟩
  · rw [World.cell?_setCell_other _ _ _ _ (by simp)]; exact h1
  · rw [World.cell?_setCell_other _ _ _ _ (by simp)]; exact h2
  · rw [World.cell?_setCell_other _ _ _ _ (by simp)]; exact h3
  · rw [World.frozen?_setCell]; exact f0
  · rw [World.frozen?_setCell]; exact f1
  · rw [World.frozen?_setCell]; exact f2
  · rw [World.frozen?_setCell]; exact f3
theorem Box4.set1 {w : World} {b : Nat} {x0 x1 x2 x3 : Value} (h : Box4 w b x0 x1 x2 x3) (y : Value) : Box4 (w.setCell ⟨b, 1, none⟩ y) b x0 y x2 x3 := by
  obtain ⟨h0, h1, h2, h3, f0, f1, f2, f3, h5⟩ := h
  refine ⟨?_, World.cell?_setCell_same _ _ _ h1, ?_, ?_, ?_, ?_, ?_, ?_, by rw [World.size_setCell]; exact h5⟩
  · rw [World.cell?_setCell_other _ _ _ _ (by simp)]; exact h0
  · rw [World.cell?_setCell_other _ _ _ _ (by simp)]; exact h2
  · rw [World.cell?_setCell_other _ _ _ _ (by simp)]; exact h3
  · rw [World.frozen?_setCell]; exact f0
  · rw [World.frozen?_setCell]; exact f1
  · rw [World.frozen?_setCell]; exact f2
  · rw [World.frozen?_setCell]; exact f3
theorem Box4.set2 {w : World} {b : Nat} {x0 x1 x2 x3 : Value} (h : Box4 w b x0 x1 x2 x3) (y : Value) : Box4 (w.setCell ⟨b, 2, none⟩ y) b x0 x1 y x3 := by
  obtain ⟨h0, h1, h2, h3, f0, f1, f2, f3, h5⟩ := h
  refine ⟨?_, ?_, World.cell?_setCell_same _ _ _ h2, ?_, ?_, ?_, ?_, ?_, by rw [World.size_setCell]; exact h5⟩
  · rw [World.cell?_setCell_other _ _ _ _ (by simp)]; exact h0
  · rw [World.cell?_setCell_other _ _ _ _ (by simp)]; exact h1
  · rw [World.cell?_setCell_other _ _ _ _ (by simp)]; exact h3
  · rw [World.frozen?_setCell]; exact f0
  · rw [World.frozen?_setCell]; exact f1
  · rw [World.frozen?_setCell]; exact f2
  · rw [World.frozen?_setCell]; exact f3
theorem Box4.set3 {w : World} {b : Nat} {x0 x1 x2 x3 : Value} (h : Box4 w b x0 x1 x2 x3) (y : Value) : Box4 (w.setCell ⟨b, 3, none⟩ y) b x0 x1 x2 y := by
  obtain ⟨h0, h1, h2, h3, f0, f1, f2, f3, h5⟩ := h
  refine ⟨?_, ?_, ?_, World.cell?_setCell_same _ _ _ h3, ?_, ?_, ?_, ?_, by rw [World.size_setCell]; exact h5⟩
  · rw [World.cell?_setCell_other _ _ _ _ (by simp)]; exact h0
  · rw [World.cell?_setCell_other _ _ _ _ (by simp)]; exact h1
  · rw [World.cell?_setCell_other _ _ _ _ (by simp)]; exact h2
  · rw [World.frozen?_setCell]; exact f0
  · rw [World.frozen?_setCell]; exact f1
  · rw [World.frozen?_setCell]; exact f2
  · rw [World.frozen?_setCell]; exact f3

set_option maxRecDepth 100000 in
set_option maxHeartbeats 4000000 in
theorem packetS {w : World} {B : Nat} {vc : Value} {n : Nat} {zc : List Int} {q : Nat} (h : CS w B vc n zc q) (hq : q ≤ 5000000000) :
    Calls Try.prog 52 #[.pointer (some ⟨B, 0, none⟩)] w fun e w' => ∃ (x0 x1 x2 : Int) (u : Value) (s : List Int) (q' : Nat), e = .returned (.agg #[.int .i64 x0, .int .i64 x1, .int .i64 x2, u]) ∧ (Lit.int .i64 x0).wf = true ∧ (Lit.int .i64 x1).wf = true ∧ (Lit.int .i64 x2).wf = true ∧ SigO w' w.heap.size u s ∧ s.length ≤ 12 ∧ q' ≤ q + 300 ∧ CS w' B vc n zc q' ∧ w.grownBy w' (some B) := by
  have hBs := h.size
  go_enter Try.func52, Try.ntmps52
  go_wp2_with (fail)
  refine (amongB [1, 7, 12, 999] (h.ext ((Ext.refl w).alloc _)) (by simp) (by omega) rfl (by simp) (by simp) rfl (by intro z hz; simp at hz; omega)).mono ?_
  rintro e w1 ⟨x0, q1, rfl, hx0, hq1, hq1', hc1, hg1⟩
  have wx0 : (Lit.int .i64 x0).wf = true := wf_i64 (by simp at hx0; omega)
  clear hx0
  have hs1 := hg1.size
  simp only [World.size_alloc] at hs1
  go_wp2_with (fail)
  refine (pickS 3 hc1 (by omega)).mono ?_
  rintro e w2 ⟨x2, q2, rfl, hx1, _, hx2, hq2, hq2', hc2, hg2⟩
  replace hx2 := hx2 (by omega)
  have hs2 := hg2.size
  go_wp2_with (fail)
  have T2 := ((Box4.new w (.int .i64 0) (.int .i64 0) (.int .i64 0) (.slice none 0 0) 38).grown hg1 (by simp; omega)).grown hg2 (by simp; omega)
  have T3 := Box4.new w2 (.int .i64 x0) (.int .i64 0) (.int .i64 (1 + x2)) (.slice none 0 0) 38
  have ea : Ext w2 (w2.alloc (.cells #[.int .i64 x0, .int .i64 0, .int .i64 (1 + x2), .slice none 0 0] 38)) := (Ext.refl w2).alloc _
  replace T2 := T2.ext ea
  have hca := hc2.ext ea
  have ga := ((((Ext.refl w).alloc (.cells #[.int .i64 0, .int .i64 0, .int .i64 0, .slice none 0 0] 38)).grown.but (some B)).trans hg1).trans (hg2.trans (ea.grown.but (some B)))
  have hb3 : w.heap.size < w2.heap.size := by omega
  generalize w2.heap.size = b3 at T3 hb3 hs2 ⊢
  generalize w2.alloc (.cells #[.int .i64 x0, .int .i64 0, .int .i64 (1 + x2), .slice none 0 0] 38) = wa at T2 T3 hca ga ⊢
  clear hc1 hg1 hc2 hg2 ea h
  refine (oneS 16 hca (by omega)).mono ?_
  rintro e w3 ⟨o1, q3, rfl, hq3, hq3', hc3, hg3⟩
  replace T2 := T2.grown hg3 (by simp; omega)
  replace T3 := T3.grown hg3 (by simp; omega)
  have gb := ga.trans hg3
  clear hca ga hg3
  have hq3b : q3 ≤ q + 6 := by omega
  clear hq1 hq1' hq2 hq2' hq3 hq3'
  go_upto_if 13 with (fail)
  go_cut [] from 14 to 14 (fun wx => ∃ (y : Int), 1 ≤ y ∧ y ≤ 9 ∧ Box4 wx w.heap.size (.int .i64 0) (.int .i64 0) (.int .i64 0) (.slice none 0 0) ∧ Box4 wx b3 (.int .i64 x0) (.int .i64 0) (.int .i64 y) (.slice none 0 0) ∧ CS wx B vc n zc q3 ∧ w.grownBy wx (some B))
  case first =>
    have TH := hid T3
    obtain ⟨d0, d1, d2, d3, f0, f1, f2, f3, f5⟩ := T3
    cases o1
    case true =>
      go_wp2_with (fail)
      go_meet
      exact ⟨9, by omega, by omega, T2.grown (grow_cell w3 ⟨b3, 2, none⟩ _) (by simp; omega), TH.out.set2 _, CS.set hc3 (by omega) 2 _, gb.andThen (grow_cell w3 ⟨b3, 2, none⟩ _) (fun k hk => .inl (by simp at hk; omega))⟩
    case false =>
      go_wp2_with (fail)
      go_meet
      exact ⟨1 + x2, by omega, by omega, T2, TH.out, hc3, gb⟩
  case rest =>
    clear hc3 gb T2 T3
    obtain ⟨y, hy1, hy2, T2, T3, hc3, gb⟩ := hcut
    have TH := hid T3
    obtain ⟨d0, d1, d2, d3, f0, f1, f2, f3, f5⟩ := T3
    go_wp2_with (fail)
    refine (pickS y hc3 (by omega)).mono ?_
    rintro e w4 ⟨x1, q4, rfl, hx4, _, hx4', hq4, hq4', hc4, hg4⟩
    replace hx4' := hx4' (by omega)
    replace T2 := T2.grown hg4 (by simp; omega)
    have T3 := TH.out.grown hg4 (by simp; omega)
    have gc := gb.trans hg4
    clear TH hc3 gb hg4 d0 d1 d2 d3 f0 f1 f2 f3 f5
    have TH := hid T3
    obtain ⟨d0, d1, d2, d3, f0, f1, f2, f3, f5⟩ := T3
    go_wp2_with (fail)
    replace T2 := T2.grown (grow_cell w4 ⟨b3, 1, none⟩ (.int .i64 x1)) (by simp; omega)
    have T3 := TH.out.set1 (.int .i64 x1)
    have hc5 := CS.set hc4 (b := b3) (by omega) 1 (.int .i64 x1)
    have gd := gc.andThen (grow_cell w4 ⟨b3, 1, none⟩ (.int .i64 x1)) (fun k hk => .inl (by simp at hk; omega))
    generalize w4.setCell ⟨b3, 1, none⟩ (.int .i64 x1) = w5 at T2 T3 hc5 gd ⊢
    clear TH hc4 gc d0 d1 d2 d3 f0 f1 f2 f3 f5
    refine (pickS 3 hc5 (by omega)).mono ?_
    rintro e w6 ⟨k0, q6, rfl, hk0, _, hk1, hq6, hq6', hc6, hg6⟩
    replace hk1 := hk1 (by omega)
    replace T2 := T2.grown hg6 (by simp; omega)
    replace T3 := T3.grown hg6 (by simp; omega)
    have ge := gd.trans hg6
    clear hc5 gd hg6
    go_wp2_with (fail)
    refine (oneS 16 hc6 (by omega)).mono ?_
    rintro e w7 ⟨o2, q7, rfl, hq7, hq7', hc7, hg7⟩
    replace T2 := T2.grown hg7 (by simp; omega)
    replace T3 := T3.grown hg7 (by simp; omega)
    have gf := ge.trans hg7
    clear hc6 ge hg7
    have hq7b : q7 ≤ q + 12 := by omega
    clear hq6 hq6' hq7 hq7' hq4 hq4' hq3b
    go_upto_if 24 with (fail)
    go_cut [4] from 25 to 27 (fun s4 wx => ∃ (k : Nat) (q8 : Nat), s4 = .int .i64 (k : Int) ∧ 1 ≤ k ∧ k ≤ 12 ∧ q8 ≤ q + 14 ∧ Box4 wx w.heap.size (.int .i64 0) (.int .i64 0) (.int .i64 0) (.slice none 0 0) ∧ Box4 wx b3 (.int .i64 x0) (.int .i64 x1) (.int .i64 y) (.slice none 0 0) ∧ CS wx B vc n zc q8 ∧ w.grownBy wx (some B))
    case first =>
      cases o2
      case true =>
        go_wp2_with (fail)
        refine (pickS 2 hc7 (by omega)).mono ?_
        rintro e w8 ⟨k2, q8, rfl, hk2, _, hk3, hq8, hq8', hc8, hg8⟩
        replace hk3 := hk3 (by omega)
        replace T2 := T2.grown hg8 (by simp; omega)
        replace T3 := T3.grown hg8 (by simp; omega)
        have gg := gf.trans hg8
        clear hc7 gf hg8
        go_wp2_with (fail)
        go_meet
        exact ⟨(8 + k2).toNat, q8, by congr 1; omega, by omega, by omega, by omega, T2, T3, hc8, gg⟩
      case false =>
        go_wp2_with (fail)
        go_meet
        exact ⟨(1 + k0).toNat, q7, by congr 1; omega, by omega, by omega, by omega, T2, T3, hc7, gf⟩
    case rest =>
      clear hc7 gf T2 T3
      obtain ⟨k, q8, rfl, hk1, hk2, hq8, T2, T3, hc8, gg⟩ := hcut
      go_wp2_with (fail)
      have T3c := T3.2.2.2.2.2.2.2.2
      refine (contentsS k hk2 hc8 (by omega)).mono ?_
      rintro e w9 ⟨v, s, q9, rfl, hs, hsl, hq9, hc9, hg9⟩
      replace T2 := T2.grown hg9 (by simp; omega)
      replace T3 := T3.grown hg9 (by simp; omega)
      have gh := gg.trans hg9
      have hwc := gg.size
      have hb3c : b3 < wc.heap.size := T3c
      have hs12 : s.length ≤ 12 := by omega
      have hs1 : 1 ≤ s.length := by omega
      clear hc8 gg hg9 hsl
      have TH := hid T3
      have HS := hid hs
      obtain ⟨a9, c9, e9⟩ := introw_slice hs.ints
      have HL := hid (show s.length = s.length from rfl)
      obtain ⟨m9, hm9⟩ : ∃ m, m = s.length := ⟨_, rfl⟩
      rw [← hm9] at e9 hs12 hs1
      subst e9
      have HM := hid hm9
      clear HL hm9 hs
      obtain ⟨d0, d1, d2, d3, f0, f1, f2, f3, f5⟩ := T3
      go_wp2_with (fail)
      replace T2 := T2.grown (grow_cell w9 ⟨b3, 3, none⟩ (.slice a9 m9 c9)) (by simp; omega)
      have T3 := TH.out.set3 (.slice a9 m9 c9)
      have hc10 := CS.set hc9 (b := b3) (by omega) 3 (.slice a9 m9 c9)
      have hs2 := HS.out.setC (b := b3) (j := 3) (x := .slice a9 m9 c9) hb3c
      have gi := gh.andThen (grow_cell w9 ⟨b3, 3, none⟩ (.slice a9 m9 c9)) (fun k hk => .inl (by simp at hk; omega))
      generalize w9.setCell ⟨b3, 3, none⟩ (.slice a9 m9 c9) = w10 at T2 T3 hc10 hs2 gi ⊢
      clear TH HS hc9 gh d0 d1 d2 d3 f0 f1 f2 f3 f5
      refine (pickS 40 hc10 (by omega)).mono ?_
      rintro e w11 ⟨z, q11, rfl, hz0, _, hz1, hq11, hq11', hc11, hg11⟩
      replace T2 := T2.grown hg11 (by simp; omega)
      replace T3 := T3.grown hg11 (by simp; omega)
      have hs3 := hs2.far hg11 (fun k hk => by simp at hk; omega)
      have gj := gi.trans hg11
      have hg0 : w.heap.size + 1 ≤ wc.heap.size := by omega
      have hq11b : q11 ≤ q + 220 := by omega
      have wx1 : (Lit.int .i64 x1).wf = true := wf_i64 (by omega)
      have wy : (Lit.int .i64 y).wf = true := wf_i64 (by omega)
      clear hc10 gi hg11 hs2 hq11 hq11' hz1 hq9 hq8 hq7b T3c hwc
      have hb4 := T3.2.2.2.2.2.2.2.2
      go_upto_block 0 with (fail)
      go_cut [] from 36 to 64 (fun wx => ∃ (y0 y1 y2 : Int) (u : Value) (s' : List Int) (q' : Nat), (Lit.int .i64 y0).wf = true ∧ (Lit.int .i64 y1).wf = true ∧ (Lit.int .i64 y2).wf = true ∧ s'.length ≤ 12 ∧ q' ≤ q + 230 ∧ SigO wx (w.heap.size + 1) u s' ∧ Box4 wx w.heap.size (.int .i64 0) (.int .i64 0) (.int .i64 0) (.slice none 0 0) ∧ Box4 wx b3 (.int .i64 y0) (.int .i64 y1) (.int .i64 y2) u ∧ CS wx B vc n zc q' ∧ w.grownBy wx (some B))
      case first =>
        by_cases z0 : z = 0
        · subst z0
          go_wp2_with (fail)
          refine (amongL [0, 1000] hc11 (by omega) rfl (by simp) (by simp) rfl (by intro z hz; simp at hz; omega)).mono ?_
          rintro e w12 ⟨t, q12, rfl, ht, hq12, hq12', hc12, hg12⟩
          have wt : (Lit.int .i64 t).wf = true := wf_i64 (by simp at ht; omega)
          clear ht
          replace T2 := T2.grown hg12 (by simp; omega)
          replace T3 := T3.grown hg12 (by simp; omega)
          replace hs3 := hs3.far hg12 (fun k hk => by simp at hk; omega)
          have gk := gj.trans hg12
          clear hc11 gj hg12
          have TH := hid T3
          have HS3 := hid hs3
          clear hs3
          obtain ⟨d0, d1, d2, d3, f0, f1, f2, f3, f5⟩ := T3
          go_wp2_with (fail)
          go_meet
          exact ⟨t, x1, y, _, s, q12, wt, wx1, wy, by have := HM.out; omega, by omega, (HS3.out.setC (b := b3) (j := 0) (x := .int .i64 t) hb3c).mono hg0, T2.grown (grow_cell w12 ⟨b3, 0, none⟩ (.int .i64 t)) (by simp; omega), TH.out.set0 (.int .i64 t), CS.set hc12 (b := b3) (by omega) 0 (.int .i64 t), gk.andThen (grow_cell w12 ⟨b3, 0, none⟩ (.int .i64 t)) (fun k hk => .inl (by simp at hk; omega))⟩
        by_cases z1 : z = 1
        · subst z1
          have TH9 := hid T3
          obtain ⟨d0, d1, d2, d3, f0, f1, f2, f3, f5⟩ := T3
          go_wp2_with (fail)
          have T3 := TH9.out
          clear TH9 d0 d1 d2 d3 f0 f1 f2 f3 f5
          refine (amongL [-1, y] hc11 (by omega) rfl (by simp) (by simp) rfl (by intro z hz; simp at hz; omega)).mono ?_
          rintro e w12 ⟨t, q12, rfl, ht, hq12, hq12', hc12, hg12⟩
          have wt : (Lit.int .i64 t).wf = true := wf_i64 (by simp at ht; omega)
          clear ht
          replace T2 := T2.grown hg12 (by simp; omega)
          replace T3 := T3.grown hg12 (by simp; omega)
          replace hs3 := hs3.far hg12 (fun k hk => by simp at hk; omega)
          have gk := gj.trans hg12
          clear hc11 gj hg12
          have TH := hid T3
          have HS3 := hid hs3
          clear hs3
          obtain ⟨d0, d1, d2, d3, f0, f1, f2, f3, f5⟩ := T3
          go_wp2_with (fail)
          go_meet
          exact ⟨x0, t, y, _, s, q12, wx0, wt, wy, by have := HM.out; omega, by omega, (HS3.out.setC (b := b3) (j := 1) (x := .int .i64 t) hb3c).mono hg0, T2.grown (grow_cell w12 ⟨b3, 1, none⟩ (.int .i64 t)) (by simp; omega), TH.out.set1 (.int .i64 t), CS.set hc12 (b := b3) (by omega) 1 (.int .i64 t), gk.andThen (grow_cell w12 ⟨b3, 1, none⟩ (.int .i64 t)) (fun k hk => .inl (by simp at hk; omega))⟩
        by_cases z2 : z = 2
        · subst z2
          go_wp2_with (fail)
          refine (amongL [0, 9, 10] hc11 (by omega) rfl (by simp) (by simp) rfl (by intro z hz; simp at hz; omega)).mono ?_
          rintro e w12 ⟨t, q12, rfl, ht, hq12, hq12', hc12, hg12⟩
          have wt : (Lit.int .i64 t).wf = true := wf_i64 (by simp at ht; omega)
          clear ht
          replace T2 := T2.grown hg12 (by simp; omega)
          replace T3 := T3.grown hg12 (by simp; omega)
          replace hs3 := hs3.far hg12 (fun k hk => by simp at hk; omega)
          have gk := gj.trans hg12
          clear hc11 gj hg12
          have TH := hid T3
          have HS3 := hid hs3
          clear hs3
          obtain ⟨d0, d1, d2, d3, f0, f1, f2, f3, f5⟩ := T3
          go_wp2_with (fail)
          go_meet
          exact ⟨x0, x1, t, _, s, q12, wx0, wx1, wt, by have := HM.out; omega, by omega, (HS3.out.setC (b := b3) (j := 2) (x := .int .i64 t) hb3c).mono hg0, T2.grown (grow_cell w12 ⟨b3, 2, none⟩ (.int .i64 t)) (by simp; omega), TH.out.set2 (.int .i64 t), CS.set hc12 (b := b3) (by omega) 2 (.int .i64 t), gk.andThen (grow_cell w12 ⟨b3, 2, none⟩ (.int .i64 t)) (fun k hk => .inl (by simp at hk; omega))⟩
        by_cases z3 : z = 3
        · subst z3
          obtain ⟨_, _, he, _, _, hgo⟩ := row_shape hs3.1
          obtain ⟨m0, hm0⟩ : ∃ m0, m0 = s.length := ⟨_, rfl⟩
          rw [← hm0] at he hgo
          obtain rfl : m0 = m9 := by have := HM.out; omega
          obtain ⟨g, hge, hg1, hg2⟩ := hgo.resolve_left (by omega)
          simp only [Value.slice.injEq, true_and] at he
          obtain ⟨rfl, rfl⟩ := he
          subst hge
          have HM0 := hid hm0
          clear hm0 hgo
          have hgb : b3 < g := by omega
          have hm1 : 0 < m0 := by omega
          have hm2 : (0 : Int) < (m0 : Int) := by omega
          have hBg : B < g := by omega
          have hwg : w.heap.size < g := by omega
          have HS3 := hid hs3
          clear hs3
          have TH := hid T3
          obtain ⟨d0, d1, d2, d3, f0, f1, f2, f3, f5⟩ := T3
          have SKP : ∀ w', w11.grownBy w' (some B) → w'.cell? ⟨b3, 3, none⟩ = some (.slice (some ⟨g, 0, none⟩) m0 c9) := fun w' g => World.grownBy.cell g d3 (by simp; omega)
          have SK0 := SKP _ (((Ext.refl w11).drew).grown.but _)
          have HSK := hid SKP
          clear SKP d0 d1 d2 d3 f0 f1 f2 f3 f5
          go_upto_region 17 with (fail)
          go_region_held3 (fun w' => w'.cell? ⟨b3, 3, none⟩ = some (.slice (some ⟨g, 0, none⟩) m0 c9))
            (first | exact SK | exact SK0 | exact SK3 _ | exact HSK.out _ (((by repeat (first | exact Ext.refl _ | assumption | refine Ext.alloc ?_ _ | refine Ext.drew ?_ | refine Ext.drewN ?_ _ | refine Ext.setCell ?_ (by first | exact Nat.le_refl _ | (simp; done) | (dsimp only; omega) | (simp only [World.size_alloc, World.size_setCell]; omega)) _ | refine Ext.trans ?_ (by assumption))) : Ext w11 _).grown.but _))
            (first
              | (go_at_call 34; refine (amongL [0, 60, 61] (hc11.ext ((Ext.refl w11).drew)) (by omega) rfl (by simp) (by simp) rfl (by intro z hz; simp at hz; omega)).mono ?_; rintro e w12 ⟨t, q12, rfl, ht, hq12, hq12', hc12, hg12⟩; have hg12 : w11.grownBy w12 (some B) := World.grownBy.trans (((by repeat (first | exact Ext.refl _ | assumption | refine Ext.alloc ?_ _ | refine Ext.drew ?_ | refine Ext.drewN ?_ _ | refine Ext.setCell ?_ (by first | exact Nat.le_refl _ | (simp; done) | (dsimp only; omega) | (simp only [World.size_alloc, World.size_setCell]; omega)) _ | refine Ext.trans ?_ (by assumption))) : Ext w11 _).grown.but _) hg12; have SK := HSK.out _ hg12; have hrow := HS3.out.1.kept hg12 (.inr (fun e => by simp [Value.ownBlock] at e; omega)); rw [← HM0.out] at hrow; obtain ⟨u0, cu0, _⟩ := row_cell hrow 0 (by omega); have fu0 := hrow.frozenAt 0; have HROW := hid hrow; clear hrow; have SK3 : ∀ z, (w12.setCell ⟨g, 0, none⟩ z).cell? ⟨b3, 3, none⟩ = some (.slice (some ⟨g, 0, none⟩) m0 c9) := fun z => by rw [World.cell?_setCell_other _ _ _ _ (by simp <;> omega)]; exact SK))
          go_wp2_with (fail)
          go_meet
          have wt : (Lit.int .i64 t).wf = true := wf_i64 (by simp at ht; omega)
          have hX : SigO (w12.setCell ⟨g, 0, none⟩ (.int .i64 t)) wc.heap.size (.slice (some ⟨g, 0, none⟩) m0 c9) (s.set 0 t) := by
            refine ⟨?_, set_wf HS3.out.2.1 wt, by rw [List.length_set]; exact HS3.out.2.2⟩
            have h1 := (HROW.out.stored 0 (.int .i64 t)).1
            rw [← List.map_set] at h1
            rw [List.length_set, ← HM0.out]
            exact h1
          exact ⟨x0, x1, y, _, s.set 0 t, q12, wx0, wx1, wy, by rw [List.length_set]; have := HM.out; omega, by omega, hX.mono hg0, (T2.grown hg12 (by simp; omega)).grown (grow_cell w12 ⟨g, 0, none⟩ _) (by simp; omega), (TH.out.grown hg12 (by simp; omega)).grown (grow_cell w12 ⟨g, 0, none⟩ _) (by simp; omega), CS.set hc12 hBg 0 _, (gj.trans hg12).andThen (grow_cell w12 ⟨g, 0, none⟩ _) (fun k hk => .inl (by simp at hk; omega))⟩
        by_cases z4 : z = 4
        · subst z4
          have TH := hid T3
          obtain ⟨d0, d1, d2, d3, f0, f1, f2, f3, f5⟩ := T3
          go_wp2_with (fail)
          go_meet
          exact ⟨x0, x1, y, _, [], q11, wx0, wx1, wy, by simp, by omega, SigO.nil _ _, T2.grown (grow_cell w11 ⟨b3, 3, none⟩ _) (by simp; omega), TH.out.set3 _, CS.set hc11 (b := b3) (by omega) 3 _, gj.andThen (grow_cell w11 ⟨b3, 3, none⟩ _) (fun k hk => .inl (by simp at hk; omega))⟩
        go_wp2_with (fail)
        go_meet
        exact ⟨x0, x1, y, _, s, q11, wx0, wx1, wy, by have := HM.out; omega, by omega, hs3.mono hg0, T2, T3, hc11, gj⟩
      case rest =>
        obtain ⟨y0, y1, y2, u, s', q', wy0, wy1, wy2, hs4, hq', hS, T4, T5, hc12, gk⟩ := hcut
        clear hc11 gj hs3 T2 T3
        obtain ⟨a8, c8, e8⟩ := introw_slice hS.ints
        obtain ⟨m8, hm8⟩ : ∃ m, m = s'.length := ⟨_, rfl⟩
        rw [← hm8] at e8 hs4
        subst e8
        have HM8 := hid hm8
        clear hm8
        have HS := hid hS
        obtain ⟨d0, d1, d2, d3, f0, f1, f2, f3, f5⟩ := T5
        obtain ⟨r0, r1, r2, r3, e0, e1, e2, e3, e5⟩ := T4
        clear hS
        go_wp2_with (fail)
        have hs5 := (((HS.out.setC (b := w.heap.size) (j := 0) (x := .int .i64 y0) (by omega)).setC (b := w.heap.size) (j := 1) (x := .int .i64 y1) (by omega)).setC (b := w.heap.size) (j := 2) (x := .int .i64 y2) (by omega)).setC (b := w.heap.size) (j := 3) (x := .slice a8 m8 c8) (by omega)
        have hc5 := (((hc12.set (b := w.heap.size) hBs 0 (.int .i64 y0)).set (b := w.heap.size) hBs 1 (.int .i64 y1)).set (b := w.heap.size) hBs 2 (.int .i64 y2)).set (b := w.heap.size) hBs 3 (.slice a8 m8 c8)
        have gl : w.grownBy ((((wc.setCell ⟨w.heap.size, 0, none⟩ (.int .i64 y0)).setCell ⟨w.heap.size, 1, none⟩ (.int .i64 y1)).setCell ⟨w.heap.size, 2, none⟩ (.int .i64 y2)).setCell ⟨w.heap.size, 3, none⟩ (.slice a8 m8 c8)) (some B) := (((gk.andThen (grow_cell _ ⟨w.heap.size, 0, none⟩ (.int .i64 y0)) (fun k hk => .inl (by simp at hk; omega))).andThen (grow_cell _ ⟨w.heap.size, 1, none⟩ (.int .i64 y1)) (fun k hk => .inl (by simp at hk; omega))).andThen (grow_cell _ ⟨w.heap.size, 2, none⟩ (.int .i64 y2)) (fun k hk => .inl (by simp at hk; omega))).andThen (grow_cell _ ⟨w.heap.size, 3, none⟩ (.slice a8 m8 c8)) (fun k hk => .inl (by simp at hk; omega))
        have hm9 : s'.length ≤ 12 := by have := HM8.out; omega
        refine bodyPost_ret (v := .agg #[.int .i64 y0, .int .i64 y1, .int .i64 y2, .slice a8 m8 c8]) (by simp [results, Try.results52, go_sem, *]) rfl ⟨y0, y1, y2, _, s', q', rfl, wy0, wy1, wy2, hs5.mono (by omega), hm9, by omega, hc5, gl⟩
end Go.Proofs.Ytjmbhlhkjjinbaa
namespace Go.Proofs.Ytjmbhlhkjjinbaa
open Go.RowKit
set_option linter.unusedSimpArgs false
set_option linter.unusedVariables false

theorem takeR {w : World} {K : Nat} {a : Option Addr} {n c k : Nat} {ys : List Value} (h : RowR w K (.slice a n c) n ys) (hk : k ≤ n) : RowR w K (.slice a k c) k (ys.take (k * K)) := by
  obtain ⟨h1, a', c', h4, h5, h6, h7⟩ := h
  injection h4 with e1 e2 e3
  subst e1
  subst e3
  refine ⟨by rw [List.length_take, h1]; exact Nat.min_eq_left (Nat.mul_le_mul_right _ hk), a, c, rfl, by omega, h6, ?_⟩
  by_cases h0 : k = 0
  · exact .inl h0
  · obtain ⟨b, o, ha, hb, hc⟩ := h7.resolve_left (by omega)
    refine .inr ⟨b, o, ha, hb, fun j u hu => hc j u ?_⟩
    rw [List.getElem?_take] at hu
    split at hu
    · exact hu
    · cases hu
theorem dropR {w : World} {K b o n c k : Nat} {ys : List Value} (h : RowR w K (.slice (some ⟨b, o, none⟩) n c) n ys) (hk : k ≤ n) : RowR w K (.slice (some ⟨b, o + k * K, none⟩) (n - k) (c - k)) (n - k) (ys.drop (k * K)) := by
  obtain ⟨h1, a', c', h4, h5, h6, h7⟩ := h
  injection h4 with e1 e2 e3
  subst e1
  subst e3
  refine ⟨by rw [List.length_drop, h1, Nat.sub_mul], _, c - k, rfl, by omega, by omega, ?_⟩
  by_cases h0 : n - k = 0
  · exact .inl h0
  · obtain ⟨b', o', ha, hb, hc⟩ := h7.resolve_left (by omega)
    injection ha with ha
    injection ha with e2 e3
    subst e2
    subst e3
    refine .inr ⟨b, o + k * K, rfl, hb, fun j u hu => ?_⟩
    rw [List.getElem?_drop] at hu
    rw [show o + k * K + j = o + (k * K + j) by omega]
    exact hc _ _ hu
theorem noneR (w : World) (K : Nat) (a : Option Addr) (c : Nat) (hc : c ≤ maxLen) : RowR w K (.slice a 0 c) 0 [] := ⟨by simp, a, c, rfl, Nat.zero_le _, hc, .inl rfl⟩
theorem farR {w w' : World} {K b o n c : Nat} {ys : List Value} {r : Option Nat} (h : RowR w K (.slice (some ⟨b, o, none⟩) n c) n ys) (g : w.grownBy w' r) (hr : r ≠ some b) : RowR w' K (.slice (some ⟨b, o, none⟩) n c) n ys := by
  obtain ⟨h1, a, c', h4, h5, h6, h7⟩ := h
  refine ⟨h1, a, c', h4, h5, h6, ?_⟩
  rcases h7 with h7 | ⟨b', o', ha, hb, hc⟩
  · exact .inl h7
  · injection h4 with e1 _ _
    rw [ha] at e1
    injection e1 with e1
    injection e1 with e2 e3
    subst e2
    subst e3
    exact .inr ⟨b, o, ha, Nat.lt_of_lt_of_le hb g.size, fun j u hu => World.grownBy.cell g (hc j u hu) (fun e => hr e.symm)⟩
set_option maxRecDepth 100000 in
theorem contentsI {w : World} {B : Nat} {vc : Value} {n : Nat} {zc : List Int} {q : Nat} (x : Int) (h0 : 0 ≤ x) (h1 : x ≤ 12) (h : CS w B vc n zc q) (hq : q ≤ 10000000000) :
    Calls Try.prog 50 #[.pointer (some ⟨B, 0, none⟩), .int .i64 x] w fun e w' => ∃ (v : Value) (s : List Int) (q' : Nat), e = .returned v ∧ SigO w' w.heap.size v s ∧ (s.length : Int) = x ∧ q' ≤ q + 200 ∧ CS w' B vc n zc q' ∧ w.grownBy w' (some B) := by
  obtain ⟨k, rfl⟩ := Int.eq_ofNat_of_zero_le h0
  refine (contentsS k (by omega) h hq).mono ?_
  rintro e w' ⟨v, s, q', a, b, c, d⟩
  exact ⟨v, s, q', a, b, by omega, d⟩
set_option maxRecDepth 100000 in
theorem pkSplitI (x d : Int) (v : Value) (m : Nat) (s : List Int) (w : World) (hx : (Lit.int .i64 x).wf = true) (h : IntRow .i64 1 w v m s) (hm : m ≤ 12) (hd1 : 1 ≤ d) (hd2 : d ≤ 12) :
    Calls Try.prog 49 #[.int .i64 x, v, .int .i64 d] w fun e w' => ∃ v' n ys, e = .returned v' ∧ PkO 12 w' w.heap.size v' n ys ∧ n ≤ m ∧ Ext w w' := by
  obtain ⟨k, rfl⟩ := Int.eq_ofNat_of_zero_le (show 0 ≤ d by omega)
  exact pkSplit_any x v m k s w hx h hm (by omega) (by omega)
theorem PkC.set3 {L : Nat} {w : World} {base n k : Nat} {v : Value} {s' : List Int} {ys : List Value} (h : PkC L w base n ys) (hk : k < n) (hS : SigO w base v s') (hL : s'.length ≤ L) : PkC L w base n (ys.set (k * 4 + 3) v) := by
  refine ⟨by rw [List.length_set]; exact h.1, fun j hj => ?_⟩
  have hl := h.1
  obtain ⟨x0, x1, x2, u, s, a0, a1, a2, a3, b0, b1, b2, c, d⟩ := h.2 j hj
  by_cases e : j = k
  · subst e
    exact ⟨x0, x1, x2, v, s', by rw [List.getElem?_set_ne (by omega)]; exact a0, by rw [List.getElem?_set_ne (by omega)]; exact a1, by rw [List.getElem?_set_ne (by omega)]; exact a2, by rw [List.getElem?_set_self (by omega)], b0, b1, b2, hS, hL⟩
  · exact ⟨x0, x1, x2, u, s, by rw [List.getElem?_set_ne (by omega)]; exact a0, by rw [List.getElem?_set_ne (by omega)]; exact a1, by rw [List.getElem?_set_ne (by omega)]; exact a2, by rw [List.getElem?_set_ne (by omega)]; exact a3, b0, b1, b2, c, d⟩
theorem lit_pkAt (w : World) (g : Nat) (t : TypeId) (x0 x1 x2 : Int) (u : Value) (hg : g = w.heap.size) : RowR (w.alloc (.cells #[.int .i64 x0, .int .i64 x1, .int .i64 x2, u] t)) 4 (.slice (some ⟨g, 0, none⟩) 1 1) 1 [.int .i64 x0, .int .i64 x1, .int .i64 x2, u] := by
  subst hg
  exact lit_pk w t x0 x1 x2 u
theorem SigO.lit (w : World) (x : Int) (hx : (Lit.int .i64 x).wf = true) : SigO (w.alloc (.cells #[.int .i64 x] 3)) w.heap.size (.slice (some ⟨w.heap.size, 0, none⟩) 1 1) [x] :=
  ⟨⟨rfl, .inr ⟨w.heap.size, 1, #[.int .i64 x], rfl, Nat.le_refl _, heap_alloc_new w _, Nat.le_refl _, by unfold maxLen; omega, rfl, rfl⟩⟩, by intro y hy; simp only [List.mem_singleton] at hy; subst hy; exact hx, by simp⟩
/-- one element of a row of packets of the call's own: its cells -/
theorem PkO.elem {L : Nat} {w : World} {base g m c : Nat} {xs : List Value} (h : PkO L w base (.slice (some ⟨g, 0, none⟩) m c) m xs) {j : Nat} (hj : j < m) : ∃ (x0 x1 x2 : Int) (u : Value) (s : List Int), w.cell? ⟨g, j * 4, none⟩ = some (.int .i64 x0) ∧ w.cell? ⟨g, j * 4 + 1, none⟩ = some (.int .i64 x1) ∧ w.cell? ⟨g, j * 4 + 2, none⟩ = some (.int .i64 x2) ∧ w.cell? ⟨g, j * 4 + 3, none⟩ = some u ∧ (Lit.int .i64 x0).wf = true ∧ (Lit.int .i64 x1).wf = true ∧ (Lit.int .i64 x2).wf = true ∧ SigO w base u s ∧ s.length ≤ L := by
  obtain ⟨x0, x1, x2, u, s, a0, a1, a2, a3, b0, b1, b2, c, d⟩ := h.2.2 j hj
  refine ⟨x0, x1, x2, u, s, ?_, ?_, ?_, ?_, b0, b1, b2, c, d⟩
  · rw [h.1.cellAt _ (by omega)]; exact a0
  · rw [h.1.cellAt _ (by omega)]; exact a1
  · rw [h.1.cellAt _ (by omega)]; exact a2
  · rw [h.1.cellAt _ (by omega)]; exact a3
theorem PkO.slice {L : Nat} {w : World} {base m : Nat} {v : Value} {xs : List Value} (h : PkO L w base v m xs) : ∃ a c, v = .slice a m c := by
  obtain ⟨a, c, rfl, _, _, _⟩ := row_shape h.1
  exact ⟨a, c, rfl⟩
theorem PkO.off {L : Nat} {w w' : World} {base base' m n : Nat} {v v' : Value} {xs ys : List Value} (h : PkO L w base v m xs) (k : w.ownsRow base' 38 4 v' n ys) (g : w.grownBy w' v'.ownBlock) (hd : ∀ k, v'.ownBlock = some k → v.ownBlock ≠ some k) : PkO L w' base v m xs :=
  ⟨h.1.kept g (by
    cases hb : v'.ownBlock with
    | none => cases hv : v.ownBlock with
      | none => exact .inl rfl
      | some k => exact .inr (by simp)
    | some k => exact .inr (hd k hb)), h.2.spine k g⟩

set_option maxRecDepth 100000 in
set_option maxHeartbeats 8000000 in
theorem packetsS {w : World} {B : Nat} {vc : Value} {n : Nat} {zc : List Int} {q : Nat} (h : CS w B vc n zc q) (hq : q ≤ 3000000000) :
    Calls Try.prog 21 #[.pointer (some ⟨B, 0, none⟩)] w fun e w' => ∃ (v : Value) (m : Nat) (xs : List Value) (q' : Nat), e = .returned v ∧ PkO 13 w' w.heap.size v m xs ∧ m ≤ 41 ∧ q' ≤ q + 2000 ∧ CS w' B vc n zc q' ∧ w.grownBy w' (some B) := by
  obtain ⟨i0, hi, hz0, hz1, hz2⟩ := info_parts info_PacketK
  have hBs := h.size
  go_enter Try.func21, Try.ntmps21
  go_wp2_with (fail)
  refine (pickS 3 h (by omega)).mono ?_
  rintro e w1 ⟨k1, q1, rfl, hk1, _, hk1', hq1, hq1', hc1, hg1⟩
  replace hk1' := hk1' (by omega)
  clear h
  go_wp2_with (fail)
  go_loopw [3, 4] (fun s3 s4 wr => ∃ (k : Int) (m : Nat) (xs : List Value) (qr : Nat), -1 ≤ k ∧ k ≤ 2 ∧ s4 = .int .i64 k ∧ PkO 12 wr w.heap.size s3 m xs ∧ (m : Int) ≤ 24 - 12 * k ∧ (qr : Int) ≤ q + 502 - 250 * k ∧ CS wr B vc n zc qr ∧ w.grownBy wr (some B))
    (fun _ s4 _ => (intOf s4 + 1).toNat)
  case atStart => exact ⟨k1, 0, [], q1, by omega, by omega, rfl, PkO.nil _ _ _, by omega, by omega, hc1, hg1⟩
  case round =>
    obtain ⟨k, m, xs, qr, hka, hkb, rfl, hO, hm, hqr, hcr, hgr⟩ := hrel
    obtain ⟨wo, rfl⟩ : ∃ wo : World, wo = wr := ⟨_, rfl⟩
    clear hc1 hg1
    obtain ⟨a3, c3, rfl⟩ := hO.slice
    have HO := hid hO
    clear hO
    by_cases hk0 : 0 ≤ k
    · have t1 : decide ((0 : Int) ≤ k) = true := by simpa using hk0
      go_wp2_with (fail)
      refine (amongL [1, 7, 12] hcr (by omega) rfl (by simp) (by simp) rfl (by intro z hz; simp at hz; omega)).mono ?_
      rintro e w2 ⟨y, q2, rfl, hy, hq2, hq2', hc2, hg2⟩
      have wy : (Lit.int .i64 y).wf = true := wf_i64 (by simp at hy; omega)
      clear hy
      go_wp2_with (fail)
      refine (pickS 6 hc2 (by omega)).mono ?_
      rintro e w3 ⟨x3, q3, rfl, hx3, _, hx3', hq3, hq3', hc3, hg3⟩
      replace hx3' := hx3' (by omega)
      go_wp2_with (fail)
      refine (contentsI _ (by omega) (by omega) hc3 (by omega)).mono ?_
      rintro e w4 ⟨v4, s4, q4, rfl, hs4, hl4, hq4, hc4, hg4⟩
      go_wp2_with (fail)
      refine (pickS 3 hc4 (by omega)).mono ?_
      rintro e w5 ⟨x5, q5, rfl, hx5, _, hx5', hq5, hq5', hc5, hg5⟩
      replace hx5' := hx5' (by omega)
      have hs5 := hs4.far hg5 (fun k hk => by simp at hk; have := hgr.size; have := hg2.size; have := hg3.size; omega)
      go_wp2_with (fail)
      refine (pkSplitI y _ _ _ s4 _ wy hs5.ints (by omega) (by omega) (by omega)).mono ?_
      rintro e w6 ⟨va, na, ya, rfl, hA, hna, hb6⟩
      have hg26 : wo.grownBy w6 (some B) := World.grownBy.trans hg2 (World.grownBy.trans hg3 (World.grownBy.trans hg4 (World.grownBy.trans hg5 (hb6.grown.but (some B)))))
      have hg06 := World.grownBy.trans hgr hg26
      have hO6 := HO.out.far hg26 (fun k hk => by simp at hk; omega)
      have hc6 := hc5.ext hb6
      have hsz : w.heap.size ≤ w5.heap.size ∧ wo.heap.size ≤ w5.heap.size := by have := hgr.size; have := hg2.size; have := hg3.size; have := hg4.size; have := hg5.size; omega
      have HDJ := hid (show ∀ k, (Value.slice a3 m c3).ownBlock = some k → va.ownBlock ≠ some k from fun k h1 h2 => by have := (HO.out.1.lt k h1).2; have := (hA.1.lt k h2).1; omega)
      replace hA := hA.mono hsz.1
      have hq6 : q5 ≤ qr + 206 := by omega
      have hna6 : na ≤ 6 := by omega
      clear HO hcr hgr hc2 hg2 hc3 hg3 hs4 hc4 hg4 hs5 hc5 hg5 hb6 hg26 hsz hl4 hx3 hx3' hx5 hx5' hq2 hq2' hq3 hq3' hq4 hq5 hq5' hna
      have HO := hid hO6
      obtain ⟨aa, ca, rfl⟩ := hA.slice
      have HA := hid hA
      clear hO6 hA
      go_wp2_with (fail)
      go_loopw [3, 31] (fun s3 s31 wr => ∃ (j m' : Nat) (xs' : List Value) (qr' : Nat), j ≤ na ∧ s31 = .int .i64 (j : Int) ∧ PkO 12 wr w.heap.size s3 m' xs' ∧ m' ≤ m + 2 * j ∧ PkO 12 wr w.heap.size (.slice aa na ca) na ya ∧ (∀ k, s3.ownBlock = some k → (Value.slice aa na ca).ownBlock ≠ some k) ∧ qr' ≤ q5 + 6 * j ∧ CS wr B vc n zc qr' ∧ w.grownBy wr (some B))
        (fun _ i _ => na - (intOf i).toNat)
      case atStart => exact ⟨0, m, xs, q5, Nat.zero_le _, rfl, HO.out, by omega, HA.out, HDJ.out, by omega, hc6, hg06⟩
      case round =>
        obtain ⟨j, m', xs', qr', hj, rfl, hO, hm', hA, hDJ, hqr', hcr, hgr⟩ := hrel
        clear HO HA HDJ hc6 hg06 xs
        obtain ⟨a4, c4, rfl⟩ := hO.slice
        have HO := hid hO
        have HDJ := hid hDJ
        have HA := hid hA
        clear hO hDJ
        by_cases hlt : j < na
        · have t2 : decide ((j : Int) < (na : Int)) = true := by simpa using hlt
          obtain ⟨_, _, he, _, _, hgo⟩ := row_shape hA.1
          obtain ⟨ga, hge, hga1, hga2⟩ := hgo.resolve_left (by omega)
          simp only [Value.slice.injEq, true_and] at he
          obtain ⟨rfl, rfl⟩ := he
          subst hge
          clear hgo
          obtain ⟨x0, x1, x2, u, s, d0, d1, d2, d3, wx0, wx1, wx2, hs, hsl⟩ := hA.elem hlt
          clear hA
          obtain ⟨ua, uc, e4⟩ := introw_slice hs.ints
          obtain ⟨un, hun⟩ : ∃ m, m = s.length := ⟨_, rfl⟩
          rw [← hun] at e4
          subst e4
          have HS := hid hs
          have HUN := hid hun
          clear hs hun
          go_wp2_with (fail)
          have T7 := Box4.new wr (.int .i64 x0) (.int .i64 x1) (.int .i64 x2) (.slice ua un uc) 38
          have ea : Ext wr (wr.alloc (.cells #[.int .i64 x0, .int .i64 x1, .int .i64 x2, .slice ua un uc] 38)) := (Ext.refl wr).alloc _
          have hO7 := HO.out.ext ea
          have hA7 := HA.out.ext ea
          have hS7 := HS.out.ext ea
          have hc7 := hcr.ext ea
          have hg7 := hgr.trans (ea.grown.but (some B))
          have hBw := hgr.size
          obtain ⟨b7, hb7⟩ : ∃ b, b = wr.heap.size := ⟨_, rfl⟩
          rw [← hb7] at T7 hBw ⊢
          clear hb7
          generalize wr.alloc (.cells #[.int .i64 x0, .int .i64 x1, .int .i64 x2, .slice ua un uc] 38) = w7 at T7 hO7 hA7 hS7 hc7 hg7 ⊢
          clear ea HO HA HS hcr hgr d0 d1 d2 d3
          refine (oneS 8 hc7 (by omega)).mono ?_
          rintro e w8 ⟨o8, q8, rfl, hq8, hq8', hc8, hg8⟩
          have HO := hid (hO7.far hg8 (fun k hk => by simp at hk; omega))
          have HA := hid (hA7.far hg8 (fun k hk => by simp at hk; omega))
          have HS := hid (hS7.far hg8 (fun k hk => by simp at hk; omega))
          replace T7 := T7.grown hg8 (by simp; omega)
          have hg08 := hg7.trans hg8
          clear hO7 hA7 hS7 hc7 hg7 hg8
          have hbb := T7.2.2.2.2.2.2.2.2
          cases o8 with
          | true =>
            go_wp2_with (fail)
            go_roundw
            case rel => exact ⟨j + 1, m', xs', q8, by omega, by go_num, HO.out, by omega, HA.out, HDJ.out, by omega, hc8, hg08⟩
            case measure => simp [intOf]; omega
          | false =>
            have hm41 : m' ≤ 48 := by omega
            go_wp2_with (fail)
            refine (pickS _ hc8 (by omega)).mono ?_
            rintro e w9 ⟨xi, q9, rfl, hxi, _, hxi', hq9, hq9', hc9, hg9⟩
            replace hxi' := hxi' (by omega)
            obtain ⟨I, rfl⟩ := Int.eq_ofNat_of_zero_le hxi
            have hI : I ≤ m' := by omega
            have hO9 := HO.out.far hg9 (fun k hk => by simp at hk; omega)
            replace HA := hid (HA.out.far hg9 (fun k hk => by simp at hk; omega))
            replace HS := hid (HS.out.far hg9 (fun k hk => by simp at hk; omega))
            replace T7 := T7.grown hg9 (by simp; omega)
            have hg09 := hg08.trans hg9
            have HO := hid hO9
            have hga3 : ga < w9.heap.size := by have := hg9.size; have := (HA.out.1.lt ga rfl).2; omega
            have hq99 : q9 ≤ q5 + 6 * j + 4 := by omega
            have hbw9 : w.heap.size ≤ w9.heap.size := hg09.size
            clear hO9 hc8 hg08 hg9 hq8 hq8' hq9 hq9' hxi hxi' hbb hqr' HDJ
            go_upto_region 11 with (fail)
            go_cut [3] from 42 to 53 (fun s3 wx => ∃ (bL mm : Nat) (xs9 : List Value), w.heap.size ≤ bL ∧ ga < bL ∧ bL ≤ wx.heap.size ∧ mm ≤ m' + 1 ∧ wx.ownsRow bL 38 4 s3 mm xs9 ∧ PkC 12 wx w.heap.size mm xs9 ∧ Ext w9 wx)
            case first =>
              have hHT0 := rowR_own HO.out.1
              have HKT := hid (HO.out.2.take I hI)
              have HKD := hid (HO.out.2.drop I hI)
              have HKP := hid (PkC.one wx0 wx1 wx2 HS.out hsl)
              have EB : Ext w9 w9 := Ext.refl _
              have SKP := hid (fun (W : World) (hW : Ext w9 W) => show W.cell? ⟨b7, 0, none⟩ = some (.int .i64 x0) ∧ W.cell? ⟨b7, 1, none⟩ = some (.int .i64 x1) ∧ W.cell? ⟨b7, 2, none⟩ = some (.int .i64 x2) ∧ W.cell? ⟨b7, 3, none⟩ = some (.slice ua un uc) from ⟨(T7.ext hW).1, (T7.ext hW).2.1, (T7.ext hW).2.2.1, (T7.ext hW).2.2.2.1⟩)
              have HSH := HO.out.1.2
              clear hc9 hg09 HA
              rcases HSH with ⟨hv4, hk4⟩ | ⟨g4, c5, cur4, hv4, hg4a, hg4b, hg4c, hg4d, _, _⟩
              · obtain rfl : m' = 0 := hk4
                obtain rfl : I = 0 := by omega
                simp only [Value.slice.injEq, true_and] at hv4
                obtain ⟨rfl, rfl⟩ := hv4
                have HXN : xs' = [] := List.eq_nil_of_length_eq_zero (by have := HO.out.1.1; omega)
                subst HXN
                have HT := hid (show RowR w9 4 (.slice none 0 0) 0 (([] : List Value).take (0 * 4)) from noneR _ _ _ _ (Nat.zero_le _))
                have HD := hid (show RowR w9 4 (.slice none 0 0) (0 - 0) (([] : List Value).drop (0 * 4)) from noneR _ _ _ _ (Nat.zero_le _))
                clear hHT0
                refine wp_region_noPanic ?_
                refine wp_region_held_drew (S := (fun W => W.cell? ⟨b7, 0, none⟩ = some (.int .i64 x0) ∧ W.cell? ⟨b7, 1, none⟩ = some (.int .i64 x1) ∧ W.cell? ⟨b7, 2, none⟩ = some (.int .i64 x2) ∧ W.cell? ⟨b7, 3, none⟩ = some (.slice ua un uc))) (by kernel_rfl) ?_ (fun hHeld => ?_)
                · first | exact SKP.out _ (EB.drew) | (dsimp only; exact SKP.out _ (EB.drew))
                have ED := EB.drew
                generalize w9.drew = wd at *
                refine wpAnyH_take (i := 1) (oi := { dst := some 43, op := _, type := _, pos := _, after := _, guard := _ }) (v := ?_) rfl (by kernel_rfl) (by kernel_rfl) (by kernel_rfl) (fun _ _ _ h => h) (Or.inl ⟨by rfl, ?_⟩) (by assumption) ?_
                rotate_left
                · (intro w hSw; (try dsimp only at hSw); go_simp) <;> (first | done | with_reducible rfl | rfl)
                try simp only [Act.put, List.setIfInBounds_toArray, List.set_cons_zero, List.set_cons_succ]
                refine wpAnyH_take (i := 2) (oi := { dst := some 44, op := _, type := _, pos := _, after := _, guard := _ }) (v := ?_) rfl (by kernel_rfl) (by kernel_rfl) (by kernel_rfl) (fun _ _ _ h => h) (Or.inl ⟨by rfl, ?_⟩) (by assumption) ?_
                rotate_left
                · (intro w hSw; (try dsimp only at hSw); go_simp) <;> (first | done | with_reducible rfl | rfl)
                try simp only [Act.put, List.setIfInBounds_toArray, List.set_cons_zero, List.set_cons_succ]
                refine wpAnyH_take (i := 3) (oi := { dst := some 45, op := _, type := _, pos := _, after := _, guard := _ }) (v := ?_) rfl (by kernel_rfl) (by kernel_rfl) (by kernel_rfl) (fun _ _ _ h => h) (Or.inl ⟨by rfl, ?_⟩) (by assumption) ?_
                rotate_left
                · (intro w hSw; (try dsimp only at hSw); go_simp) <;> (first | done | with_reducible rfl | rfl)
                try simp only [Act.put, List.setIfInBounds_toArray, List.set_cons_zero, List.set_cons_succ]
                refine wpAnyH_take (i := 5) (oi := { dst := some 47, op := _, type := _, pos := _, after := _, guard := _ }) (v := ?_) rfl (by kernel_rfl) (by kernel_rfl) (by kernel_rfl) (fun _ _ _ h => h) (Or.inl ⟨by rfl, ?_⟩) (by assumption) ?_
                rotate_left
                · (intro w hSw; (try dsimp only at hSw); go_simp) <;> (first | done | with_reducible rfl | rfl)
                try simp only [Act.put, List.setIfInBounds_toArray, List.set_cons_zero, List.set_cons_succ]
                refine wpAnyH_take (i := 8) (oi := { dst := some 50, op := _, type := _, pos := _, after := _, guard := _ }) (v := ?_) rfl (by kernel_rfl) (by kernel_rfl) (by kernel_rfl) (fun _ _ _ h => h) (Or.inl ⟨by rfl, ?_⟩) (by assumption) ?_
                rotate_left
                · (intro w hSw; (try dsimp only at hSw); go_simp) <;> (first | done | with_reducible rfl | rfl)
                try simp only [Act.put, List.setIfInBounds_toArray, List.set_cons_zero, List.set_cons_succ]
                refine wpAnyH_take (i := 9) (oi := { dst := some 51, op := _, type := _, pos := _, after := _, guard := _ }) (v := ?_) rfl (by kernel_rfl) (by kernel_rfl) (by kernel_rfl) (fun _ _ _ h => h) (Or.inl ⟨by rfl, ?_⟩) (by assumption) ?_
                rotate_left
                · (intro w hSw; (try dsimp only at hSw); go_simp) <;> (first | done | with_reducible rfl | rfl)
                try simp only [Act.put, List.setIfInBounds_toArray, List.set_cons_zero, List.set_cons_succ]
                refine wpAnyH_take (i := 10) (oi := { dst := some 52, op := _, type := _, pos := _, after := _, guard := _ }) (v := ?_) rfl (by kernel_rfl) (by kernel_rfl) (by kernel_rfl) (fun _ _ _ h => h) (Or.inl ⟨by rfl, ?_⟩) (by assumption) ?_
                rotate_left
                · (intro w hSw; (try dsimp only at hSw); go_simp) <;> (first | done | with_reducible rfl | rfl)
                try simp only [Act.put, List.setIfInBounds_toArray, List.set_cons_zero, List.set_cons_succ]
                refine wpAnyH_ready (rs := [0, 6]) (by kernel_rfl) (by simp) ?_
                refine AllReadyH.cons (o := { dst := some 42, op := _, type := _, pos := _, after := _, guard := _ }) rfl (fun KK hK => ?_) (AllReadyH.cons (o := { dst := some 48, op := _, type := _, pos := _, after := _, guard := _ }) rfl (fun KK hK => ?_) AllReadyH.nil)
                · go_simp
                  have E1 : Ext w9 (wd.alloc (.cells #[] 38)) := Ext.alloc ED _
                  have R1 := row_mono (row_emptyK wd 38 4) (show w9.heap.size ≤ wd.heap.size from ED.size)
                  obtain ⟨g29, hg29⟩ : ∃ q, q = wd.heap.size := ⟨_, rfl⟩
                  have hgl : w9.heap.size ≤ g29 := by rw [hg29]; exact ED.size
                  have hlt29 : g29 < (wd.alloc (.cells #[] 38)).heap.size := by rw [hg29]; simp
                  rw [← hg29] at R1 ⊢
                  clear hg29
                  obtain ⟨wk1, hw1⟩ : ∃ W, W = wd.alloc (.cells #[] 38) := ⟨_, rfl⟩
                  rw [← hw1] at E1 R1 hlt29 ⊢
                  clear hw1
                  refine hK.out _ _ (by first | exact SKP.out _ E1 | (dsimp only; exact SKP.out _ E1)) (fun hHeld => ?_)
                  clear hK KK
                  try simp only [Act.put, List.setIfInBounds_toArray, List.set_cons_zero, List.set_cons_succ]
                  refine wpAnyH_ready (rs := [4, 6]) (by kernel_rfl) (by simp) ?_
                  refine AllReadyH.cons (o := { dst := some 46, op := _, type := _, pos := _, after := _, guard := _ }) rfl (fun KK hK => ?_) (AllReadyH.cons (o := { dst := some 48, op := _, type := _, pos := _, after := _, guard := _ }) rfl (fun KK hK => ?_) AllReadyH.nil)
                  · refine step_srcK (by rfl) (.tmp 42) (.tmp 45) 29 (by rfl) w9.heap.size 38 i0 _ 4 48 Try.underlying29 hi hz0 hz1 hz2 rfl (by omega) (by omega) (by omega) _ 0 [] (by rfl) R1 _ 0 (([] : List Value).take (0 * 4)) (by rfl) (HT.out.ext E1) HKT.out.cells (by omega) E1.size ?_
                    intro v2 wk2 R2 G2
                    have E2 : Ext w9 wk2 := Ext.of_grownAt E1 G2 (fun q hq => (R1.lt q hq).1)
                    refine hK.out _ _ (by first | exact SKP.out _ E2 | (dsimp only; exact SKP.out _ E2)) (fun hHeld => ?_)
                    clear hK KK
                    try simp only [Act.put, List.setIfInBounds_toArray, List.set_cons_zero, List.set_cons_succ]
                    refine wpAnyH_ready (rs := [6]) (by kernel_rfl) (by simp) ?_
                    refine AllReadyH.cons (o := { dst := some 48, op := _, type := _, pos := _, after := _, guard := _ }) rfl (fun KK hK => ?_) AllReadyH.nil
                    go_simp
                    have E3 : Ext w9 (wk2.alloc (.cells #[.int .i64 x0, .int .i64 x1, .int .i64 x2, .slice ua un uc] 38)) := Ext.alloc E2 _
                    have L3 := lit_pk wk2 38 x0 x1 x2 (.slice ua un uc)
                    have R3 := row_ext R2 ((Ext.refl wk2).alloc (.cells #[.int .i64 x0, .int .i64 x1, .int .i64 x2, .slice ua un uc] 38))
                    obtain ⟨g35, hg35⟩ : ∃ q, q = wk2.heap.size := ⟨_, rfl⟩
                    rw [← hg35] at L3 ⊢
                    clear hg35
                    obtain ⟨wk3, hw3⟩ : ∃ W, W = wk2.alloc (.cells #[.int .i64 x0, .int .i64 x1, .int .i64 x2, .slice ua un uc] 38) := ⟨_, rfl⟩
                    rw [← hw3] at E3 R3 L3 ⊢
                    clear hw3
                    refine hK.out _ _ (by first | exact SKP.out _ E3 | (dsimp only; exact SKP.out _ E3)) (fun hHeld => ?_)
                    clear hK KK
                    try simp only [Act.put, List.setIfInBounds_toArray, List.set_cons_zero, List.set_cons_succ]
                    refine wpAnyH_ready (rs := [7]) (by kernel_rfl) (by simp) ?_
                    refine AllReadyH.cons (o := { dst := some 49, op := _, type := _, pos := _, after := _, guard := _ }) rfl (fun KK hK => ?_) AllReadyH.nil
                    refine step_srcK (by rfl) (.tmp 46) (.tmp 48) 29 (by rfl) w9.heap.size 38 i0 _ 4 48 Try.underlying29 hi hz0 hz1 hz2 rfl (by omega) (by omega) (by omega) _ (0 + 0) _ (by rfl) R3 _ 1 [.int .i64 x0, .int .i64 x1, .int .i64 x2, .slice ua un uc] (by rfl) L3 HKP.out.cells (by omega) E3.size ?_
                    intro v4 wk4 R4 G4
                    have E4 : Ext w9 wk4 := Ext.of_grownAt E3 G4 (fun q hq => (R3.lt q hq).1)
                    refine hK.out _ _ (by first | exact SKP.out _ E4 | (dsimp only; exact SKP.out _ E4)) (fun hHeld => ?_)
                    clear hK KK
                    try simp only [Act.put, List.setIfInBounds_toArray, List.set_cons_zero, List.set_cons_succ]
                    refine wpAnyH_ready (rs := [11]) (by kernel_rfl) (by simp) ?_
                    refine AllReadyH.cons (o := { dst := some 53, op := _, type := _, pos := _, after := _, guard := _ }) rfl (fun KK hK => ?_) AllReadyH.nil
                    refine step_srcK (by rfl) (.tmp 49) (.tmp 52) 29 (by rfl) w9.heap.size 38 i0 _ 4 48 Try.underlying29 hi hz0 hz1 hz2 rfl (by omega) (by omega) (by omega) _ (0 + 0 + 1) _ (by rfl) R4 _ (0 - 0) (([] : List Value).drop (0 * 4)) (by rfl) (HD.out.ext E4) HKD.out.cells (by omega) E4.size ?_
                    intro v5 wk5 R5 G5
                    have E5 : Ext w9 wk5 := Ext.of_grownAt E4 G5 (fun q hq => (R4.lt q hq).1)
                    refine hK.out _ _ (by first | exact SKP.out _ E5 | (dsimp only; exact SKP.out _ E5)) (fun hHeld => ?_)
                    clear hK KK
                    try simp only [Act.put, List.setIfInBounds_toArray, List.set_cons_zero, List.set_cons_succ]
                    refine wpAnyH_take (i := 12) (oi := { dst := some 3, op := _, type := _, pos := _, after := _, guard := _ }) (v := ?_) rfl (by kernel_rfl) (by kernel_rfl) (by kernel_rfl) (fun _ _ _ h => h) (Or.inl ⟨by rfl, ?_⟩) (by assumption) ?_
                    rotate_left
                    · (intro w hSw; (try dsimp only at hSw); go_simp) <;> (first | done | with_reducible rfl | rfl)
                    try simp only [Act.put, List.setIfInBounds_toArray, List.set_cons_zero, List.set_cons_succ]
                    refine wpAnyH_done (by kernel_rfl) ?_ _
                    refine NoPanic.normal ?_
                    first | (go_wp2_with (fail); go_meet) | go_meet
                    refine ⟨w9.heap.size, 0 + 0 + 1 + (0 - 0), _, hbw9, hga3, E5.size, by omega, R5, ?_, E5⟩
                    exact ((((PkC.nil _ _ _).app (HKT.out.ext E5)).app (HKP.out.ext E5)).app (HKD.out.ext E5))
                  · go_simp
                    have E6 : Ext w9 (wk1.alloc (.cells #[.int .i64 x0, .int .i64 x1, .int .i64 x2, .slice ua un uc] 38)) := Ext.alloc E1 _
                    have L6 := lit_pk wk1 38 x0 x1 x2 (.slice ua un uc)
                    have R6 := row_ext R1 ((Ext.refl wk1).alloc (.cells #[.int .i64 x0, .int .i64 x1, .int .i64 x2, .slice ua un uc] 38))
                    obtain ⟨g35, hg35⟩ : ∃ q, q = wk1.heap.size := ⟨_, rfl⟩
                    have hne : g29 ≠ g35 := by rw [hg35]; omega
                    rw [← hg35] at L6 ⊢
                    clear hg35
                    obtain ⟨wk6, hw6⟩ : ∃ W, W = wk1.alloc (.cells #[.int .i64 x0, .int .i64 x1, .int .i64 x2, .slice ua un uc] 38) := ⟨_, rfl⟩
                    rw [← hw6] at E6 R6 L6 ⊢
                    clear hw6
                    refine hK.out _ _ (by first | exact SKP.out _ E6 | (dsimp only; exact SKP.out _ E6)) (fun hHeld => ?_)
                    clear hK KK
                    try simp only [Act.put, List.setIfInBounds_toArray, List.set_cons_zero, List.set_cons_succ]
                    refine wpAnyH_ready (rs := [4]) (by kernel_rfl) (by simp) ?_
                    refine AllReadyH.cons (o := { dst := some 46, op := _, type := _, pos := _, after := _, guard := _ }) rfl (fun KK hK => ?_) AllReadyH.nil
                    refine step_srcK (by rfl) (.tmp 42) (.tmp 45) 29 (by rfl) w9.heap.size 38 i0 _ 4 48 Try.underlying29 hi hz0 hz1 hz2 rfl (by omega) (by omega) (by omega) _ 0 [] (by rfl) R6 _ 0 (([] : List Value).take (0 * 4)) (by rfl) (HT.out.ext E6) HKT.out.cells (by omega) E6.size ?_
                    intro v7 wk7 R7 G7
                    have E7 : Ext w9 wk7 := Ext.of_grownAt E6 G7 (fun q hq => (R6.lt q hq).1)
                    have L7 := farR L6 G7 (by simp [Value.ownBlock]; omega)
                    refine hK.out _ _ (by first | exact SKP.out _ E7 | (dsimp only; exact SKP.out _ E7)) (fun hHeld => ?_)
                    clear hK KK
                    try simp only [Act.put, List.setIfInBounds_toArray, List.set_cons_zero, List.set_cons_succ]
                    refine wpAnyH_ready (rs := [7]) (by kernel_rfl) (by simp) ?_
                    refine AllReadyH.cons (o := { dst := some 49, op := _, type := _, pos := _, after := _, guard := _ }) rfl (fun KK hK => ?_) AllReadyH.nil
                    refine step_srcK (by rfl) (.tmp 46) (.tmp 48) 29 (by rfl) w9.heap.size 38 i0 _ 4 48 Try.underlying29 hi hz0 hz1 hz2 rfl (by omega) (by omega) (by omega) _ (0 + 0) _ (by rfl) R7 _ 1 [.int .i64 x0, .int .i64 x1, .int .i64 x2, .slice ua un uc] (by rfl) L7 HKP.out.cells (by omega) E7.size ?_
                    intro v8 wk8 R8 G8
                    have E8 : Ext w9 wk8 := Ext.of_grownAt E7 G8 (fun q hq => (R7.lt q hq).1)
                    refine hK.out _ _ (by first | exact SKP.out _ E8 | (dsimp only; exact SKP.out _ E8)) (fun hHeld => ?_)
                    clear hK KK
                    try simp only [Act.put, List.setIfInBounds_toArray, List.set_cons_zero, List.set_cons_succ]
                    refine wpAnyH_ready (rs := [11]) (by kernel_rfl) (by simp) ?_
                    refine AllReadyH.cons (o := { dst := some 53, op := _, type := _, pos := _, after := _, guard := _ }) rfl (fun KK hK => ?_) AllReadyH.nil
                    refine step_srcK (by rfl) (.tmp 49) (.tmp 52) 29 (by rfl) w9.heap.size 38 i0 _ 4 48 Try.underlying29 hi hz0 hz1 hz2 rfl (by omega) (by omega) (by omega) _ (0 + 0 + 1) _ (by rfl) R8 _ (0 - 0) (([] : List Value).drop (0 * 4)) (by rfl) (HD.out.ext E8) HKD.out.cells (by omega) E8.size ?_
                    intro v9 wk9 R9 G9
                    have E9 : Ext w9 wk9 := Ext.of_grownAt E8 G9 (fun q hq => (R8.lt q hq).1)
                    refine hK.out _ _ (by first | exact SKP.out _ E9 | (dsimp only; exact SKP.out _ E9)) (fun hHeld => ?_)
                    clear hK KK
                    try simp only [Act.put, List.setIfInBounds_toArray, List.set_cons_zero, List.set_cons_succ]
                    refine wpAnyH_take (i := 12) (oi := { dst := some 3, op := _, type := _, pos := _, after := _, guard := _ }) (v := ?_) rfl (by kernel_rfl) (by kernel_rfl) (by kernel_rfl) (fun _ _ _ h => h) (Or.inl ⟨by rfl, ?_⟩) (by assumption) ?_
                    rotate_left
                    · (intro w hSw; (try dsimp only at hSw); go_simp) <;> (first | done | with_reducible rfl | rfl)
                    try simp only [Act.put, List.setIfInBounds_toArray, List.set_cons_zero, List.set_cons_succ]
                    refine wpAnyH_done (by kernel_rfl) ?_ _
                    refine NoPanic.normal ?_
                    first | (go_wp2_with (fail); go_meet) | go_meet
                    refine ⟨w9.heap.size, 0 + 0 + 1 + (0 - 0), _, hbw9, hga3, E9.size, by omega, R9, ?_, E9⟩
                    exact ((((PkC.nil _ _ _).app (HKT.out.ext E9)).app (HKP.out.ext E9)).app (HKD.out.ext E9))
                · go_simp
                  have E10 : Ext w9 (wd.alloc (.cells #[.int .i64 x0, .int .i64 x1, .int .i64 x2, .slice ua un uc] 38)) := Ext.alloc ED _
                  have L10 := lit_pk wd 38 x0 x1 x2 (.slice ua un uc)
                  obtain ⟨g35, hg35⟩ : ∃ q, q = wd.heap.size := ⟨_, rfl⟩
                  have hlt35 : g35 < (wd.alloc (.cells #[.int .i64 x0, .int .i64 x1, .int .i64 x2, .slice ua un uc] 38)).heap.size := by rw [hg35]; simp
                  rw [← hg35] at L10 ⊢
                  clear hg35
                  obtain ⟨wk10, hw10⟩ : ∃ W, W = wd.alloc (.cells #[.int .i64 x0, .int .i64 x1, .int .i64 x2, .slice ua un uc] 38) := ⟨_, rfl⟩
                  rw [← hw10] at E10 L10 hlt35 ⊢
                  clear hw10
                  refine hK.out _ _ (by first | exact SKP.out _ E10 | (dsimp only; exact SKP.out _ E10)) (fun hHeld => ?_)
                  clear hK KK
                  try simp only [Act.put, List.setIfInBounds_toArray, List.set_cons_zero, List.set_cons_succ]
                  refine wpAnyH_ready (rs := [0]) (by kernel_rfl) (by simp) ?_
                  refine AllReadyH.cons (o := { dst := some 42, op := _, type := _, pos := _, after := _, guard := _ }) rfl (fun KK hK => ?_) AllReadyH.nil
                  go_simp
                  have E11 : Ext w9 (wk10.alloc (.cells #[] 38)) := Ext.alloc E10 _
                  have R11 := row_mono (row_emptyK wk10 38 4) (show w9.heap.size ≤ wk10.heap.size from E10.size)
                  have L11 := RowR.ext L10 ((Ext.refl wk10).alloc (.cells #[] 38))
                  obtain ⟨g29, hg29⟩ : ∃ q, q = wk10.heap.size := ⟨_, rfl⟩
                  have hne : g29 ≠ g35 := by rw [hg29]; omega
                  have hgl : w9.heap.size ≤ g29 := by rw [hg29]; exact E10.size
                  rw [← hg29] at R11 ⊢
                  clear hg29
                  obtain ⟨wk11, hw11⟩ : ∃ W, W = wk10.alloc (.cells #[] 38) := ⟨_, rfl⟩
                  rw [← hw11] at E11 R11 L11 ⊢
                  clear hw11
                  refine hK.out _ _ (by first | exact SKP.out _ E11 | (dsimp only; exact SKP.out _ E11)) (fun hHeld => ?_)
                  clear hK KK
                  try simp only [Act.put, List.setIfInBounds_toArray, List.set_cons_zero, List.set_cons_succ]
                  refine wpAnyH_ready (rs := [4]) (by kernel_rfl) (by simp) ?_
                  refine AllReadyH.cons (o := { dst := some 46, op := _, type := _, pos := _, after := _, guard := _ }) rfl (fun KK hK => ?_) AllReadyH.nil
                  refine step_srcK (by rfl) (.tmp 42) (.tmp 45) 29 (by rfl) w9.heap.size 38 i0 _ 4 48 Try.underlying29 hi hz0 hz1 hz2 rfl (by omega) (by omega) (by omega) _ 0 [] (by rfl) R11 _ 0 (([] : List Value).take (0 * 4)) (by rfl) (HT.out.ext E11) HKT.out.cells (by omega) E11.size ?_
                  intro v12 wk12 R12 G12
                  have E12 : Ext w9 wk12 := Ext.of_grownAt E11 G12 (fun q hq => (R11.lt q hq).1)
                  have L12 := farR L11 G12 (by simp [Value.ownBlock]; omega)
                  refine hK.out _ _ (by first | exact SKP.out _ E12 | (dsimp only; exact SKP.out _ E12)) (fun hHeld => ?_)
                  clear hK KK
                  try simp only [Act.put, List.setIfInBounds_toArray, List.set_cons_zero, List.set_cons_succ]
                  refine wpAnyH_ready (rs := [7]) (by kernel_rfl) (by simp) ?_
                  refine AllReadyH.cons (o := { dst := some 49, op := _, type := _, pos := _, after := _, guard := _ }) rfl (fun KK hK => ?_) AllReadyH.nil
                  refine step_srcK (by rfl) (.tmp 46) (.tmp 48) 29 (by rfl) w9.heap.size 38 i0 _ 4 48 Try.underlying29 hi hz0 hz1 hz2 rfl (by omega) (by omega) (by omega) _ (0 + 0) _ (by rfl) R12 _ 1 [.int .i64 x0, .int .i64 x1, .int .i64 x2, .slice ua un uc] (by rfl) L12 HKP.out.cells (by omega) E12.size ?_
                  intro v13 wk13 R13 G13
                  have E13 : Ext w9 wk13 := Ext.of_grownAt E12 G13 (fun q hq => (R12.lt q hq).1)
                  refine hK.out _ _ (by first | exact SKP.out _ E13 | (dsimp only; exact SKP.out _ E13)) (fun hHeld => ?_)
                  clear hK KK
                  try simp only [Act.put, List.setIfInBounds_toArray, List.set_cons_zero, List.set_cons_succ]
                  refine wpAnyH_ready (rs := [11]) (by kernel_rfl) (by simp) ?_
                  refine AllReadyH.cons (o := { dst := some 53, op := _, type := _, pos := _, after := _, guard := _ }) rfl (fun KK hK => ?_) AllReadyH.nil
                  refine step_srcK (by rfl) (.tmp 49) (.tmp 52) 29 (by rfl) w9.heap.size 38 i0 _ 4 48 Try.underlying29 hi hz0 hz1 hz2 rfl (by omega) (by omega) (by omega) _ (0 + 0 + 1) _ (by rfl) R13 _ (0 - 0) (([] : List Value).drop (0 * 4)) (by rfl) (HD.out.ext E13) HKD.out.cells (by omega) E13.size ?_
                  intro v14 wk14 R14 G14
                  have E14 : Ext w9 wk14 := Ext.of_grownAt E13 G14 (fun q hq => (R13.lt q hq).1)
                  refine hK.out _ _ (by first | exact SKP.out _ E14 | (dsimp only; exact SKP.out _ E14)) (fun hHeld => ?_)
                  clear hK KK
                  try simp only [Act.put, List.setIfInBounds_toArray, List.set_cons_zero, List.set_cons_succ]
                  refine wpAnyH_take (i := 12) (oi := { dst := some 3, op := _, type := _, pos := _, after := _, guard := _ }) (v := ?_) rfl (by kernel_rfl) (by kernel_rfl) (by kernel_rfl) (fun _ _ _ h => h) (Or.inl ⟨by rfl, ?_⟩) (by assumption) ?_
                  rotate_left
                  · (intro w hSw; (try dsimp only at hSw); go_simp) <;> (first | done | with_reducible rfl | rfl)
                  try simp only [Act.put, List.setIfInBounds_toArray, List.set_cons_zero, List.set_cons_succ]
                  refine wpAnyH_done (by kernel_rfl) ?_ _
                  refine NoPanic.normal ?_
                  first | (go_wp2_with (fail); go_meet) | go_meet
                  refine ⟨w9.heap.size, 0 + 0 + 1 + (0 - 0), _, hbw9, hga3, E14.size, by omega, R14, ?_, E14⟩
                  exact ((((PkC.nil _ _ _).app (HKT.out.ext E14)).app (HKP.out.ext E14)).app (HKD.out.ext E14))
              · simp only [Value.slice.injEq, true_and] at hv4
                obtain ⟨rfl, rfl⟩ := hv4
                clear hg4b
                have hc4 : c4 ≤ 9223372036854775807 := by have := hg4d; unfold maxLen at this; omega
                have hkp : m' ≤ c4 := hg4c
                have hmc : (I : Int) ≤ c4 := by omega
                have hmk2 : (I : Int) ≤ m' := by omega
                have hm00 : (0 : Int) ≤ (I : Int) := Int.natCast_nonneg _
                by_cases hcm4 : c4 = I
                · obtain rfl : I = c4 := hcm4.symm
                  have HT := hid (show RowR w9 4 (.slice (some ⟨g4, 0, none⟩) I I) I (xs'.take (I * 4)) from takeR hHT0 hI)
                  have HD := hid (show RowR w9 4 (.slice (some ⟨g4, 0, none⟩) 0 0) (m' - I) (xs'.drop (I * 4)) from by rw [show m' - I = 0 by omega, show xs'.drop (I * 4) = [] from List.drop_eq_nil_of_le (by have := HO.out.1.1; omega)]; exact noneR _ _ _ _ (Nat.zero_le _))
                  clear hHT0
                  refine wp_region_noPanic ?_
                  refine wp_region_held_drew (S := (fun W => W.cell? ⟨b7, 0, none⟩ = some (.int .i64 x0) ∧ W.cell? ⟨b7, 1, none⟩ = some (.int .i64 x1) ∧ W.cell? ⟨b7, 2, none⟩ = some (.int .i64 x2) ∧ W.cell? ⟨b7, 3, none⟩ = some (.slice ua un uc))) (by kernel_rfl) ?_ (fun hHeld => ?_)
                  · first | exact SKP.out _ (EB.drew) | (dsimp only; exact SKP.out _ (EB.drew))
                  have ED := EB.drew
                  generalize w9.drew = wd at *
                  refine wpAnyH_take (i := 1) (oi := { dst := some 43, op := _, type := _, pos := _, after := _, guard := _ }) (v := ?_) rfl (by kernel_rfl) (by kernel_rfl) (by kernel_rfl) (fun _ _ _ h => h) (Or.inl ⟨by rfl, ?_⟩) (by assumption) ?_
                  rotate_left
                  · (intro w hSw; (try dsimp only at hSw); go_simp) <;> (first | done | with_reducible rfl | rfl)
                  try simp only [Act.put, List.setIfInBounds_toArray, List.set_cons_zero, List.set_cons_succ]
                  refine wpAnyH_take (i := 2) (oi := { dst := some 44, op := _, type := _, pos := _, after := _, guard := _ }) (v := ?_) rfl (by kernel_rfl) (by kernel_rfl) (by kernel_rfl) (fun _ _ _ h => h) (Or.inl ⟨by rfl, ?_⟩) (by assumption) ?_
                  rotate_left
                  · (intro w hSw; (try dsimp only at hSw); go_simp) <;> (first | done | with_reducible rfl | rfl)
                  try simp only [Act.put, List.setIfInBounds_toArray, List.set_cons_zero, List.set_cons_succ]
                  refine wpAnyH_take (i := 3) (oi := { dst := some 45, op := _, type := _, pos := _, after := _, guard := _ }) (v := ?_) rfl (by kernel_rfl) (by kernel_rfl) (by kernel_rfl) (fun _ _ _ h => h) (Or.inl ⟨by rfl, ?_⟩) (by assumption) ?_
                  rotate_left
                  · (intro w hSw; (try dsimp only at hSw); go_simp) <;> (first | done | with_reducible rfl | rfl)
                  try simp only [Act.put, List.setIfInBounds_toArray, List.set_cons_zero, List.set_cons_succ]
                  refine wpAnyH_take (i := 5) (oi := { dst := some 47, op := _, type := _, pos := _, after := _, guard := _ }) (v := ?_) rfl (by kernel_rfl) (by kernel_rfl) (by kernel_rfl) (fun _ _ _ h => h) (Or.inl ⟨by rfl, ?_⟩) (by assumption) ?_
                  rotate_left
                  · (intro w hSw; (try dsimp only at hSw); go_simp) <;> (first | done | with_reducible rfl | rfl)
                  try simp only [Act.put, List.setIfInBounds_toArray, List.set_cons_zero, List.set_cons_succ]
                  refine wpAnyH_take (i := 8) (oi := { dst := some 50, op := _, type := _, pos := _, after := _, guard := _ }) (v := ?_) rfl (by kernel_rfl) (by kernel_rfl) (by kernel_rfl) (fun _ _ _ h => h) (Or.inl ⟨by rfl, ?_⟩) (by assumption) ?_
                  rotate_left
                  · (intro w hSw; (try dsimp only at hSw); go_simp) <;> (first | done | with_reducible rfl | rfl)
                  try simp only [Act.put, List.setIfInBounds_toArray, List.set_cons_zero, List.set_cons_succ]
                  refine wpAnyH_take (i := 9) (oi := { dst := some 51, op := _, type := _, pos := _, after := _, guard := _ }) (v := ?_) rfl (by kernel_rfl) (by kernel_rfl) (by kernel_rfl) (fun _ _ _ h => h) (Or.inl ⟨by rfl, ?_⟩) (by assumption) ?_
                  rotate_left
                  · (intro w hSw; (try dsimp only at hSw); go_simp) <;> (first | done | with_reducible rfl | rfl)
                  try simp only [Act.put, List.setIfInBounds_toArray, List.set_cons_zero, List.set_cons_succ]
                  refine wpAnyH_take (i := 10) (oi := { dst := some 52, op := _, type := _, pos := _, after := _, guard := _ }) (v := ?_) rfl (by kernel_rfl) (by kernel_rfl) (by kernel_rfl) (fun _ _ _ h => h) (Or.inl ⟨by rfl, ?_⟩) (by assumption) ?_
                  rotate_left
                  · (intro w hSw; (try dsimp only at hSw); go_simp) <;> (first | done | with_reducible rfl | rfl)
                  try simp only [Act.put, List.setIfInBounds_toArray, List.set_cons_zero, List.set_cons_succ]
                  refine wpAnyH_ready (rs := [0, 6]) (by kernel_rfl) (by simp) ?_
                  refine AllReadyH.cons (o := { dst := some 42, op := _, type := _, pos := _, after := _, guard := _ }) rfl (fun KK hK => ?_) (AllReadyH.cons (o := { dst := some 48, op := _, type := _, pos := _, after := _, guard := _ }) rfl (fun KK hK => ?_) AllReadyH.nil)
                  · go_simp
                    have E1 : Ext w9 (wd.alloc (.cells #[] 38)) := Ext.alloc ED _
                    have R1 := row_mono (row_emptyK wd 38 4) (show w9.heap.size ≤ wd.heap.size from ED.size)
                    obtain ⟨g29, hg29⟩ : ∃ q, q = wd.heap.size := ⟨_, rfl⟩
                    have hgl : w9.heap.size ≤ g29 := by rw [hg29]; exact ED.size
                    have hlt29 : g29 < (wd.alloc (.cells #[] 38)).heap.size := by rw [hg29]; simp
                    rw [← hg29] at R1 ⊢
                    clear hg29
                    obtain ⟨wk1, hw1⟩ : ∃ W, W = wd.alloc (.cells #[] 38) := ⟨_, rfl⟩
                    rw [← hw1] at E1 R1 hlt29 ⊢
                    clear hw1
                    refine hK.out _ _ (by first | exact SKP.out _ E1 | (dsimp only; exact SKP.out _ E1)) (fun hHeld => ?_)
                    clear hK KK
                    try simp only [Act.put, List.setIfInBounds_toArray, List.set_cons_zero, List.set_cons_succ]
                    refine wpAnyH_ready (rs := [4, 6]) (by kernel_rfl) (by simp) ?_
                    refine AllReadyH.cons (o := { dst := some 46, op := _, type := _, pos := _, after := _, guard := _ }) rfl (fun KK hK => ?_) (AllReadyH.cons (o := { dst := some 48, op := _, type := _, pos := _, after := _, guard := _ }) rfl (fun KK hK => ?_) AllReadyH.nil)
                    · refine step_srcK (by rfl) (.tmp 42) (.tmp 45) 29 (by rfl) w9.heap.size 38 i0 _ 4 48 Try.underlying29 hi hz0 hz1 hz2 rfl (by omega) (by omega) (by omega) _ 0 [] (by rfl) R1 _ I (xs'.take (I * 4)) (by rfl) (HT.out.ext E1) HKT.out.cells (by omega) E1.size ?_
                      intro v2 wk2 R2 G2
                      have E2 : Ext w9 wk2 := Ext.of_grownAt E1 G2 (fun q hq => (R1.lt q hq).1)
                      refine hK.out _ _ (by first | exact SKP.out _ E2 | (dsimp only; exact SKP.out _ E2)) (fun hHeld => ?_)
                      clear hK KK
                      try simp only [Act.put, List.setIfInBounds_toArray, List.set_cons_zero, List.set_cons_succ]
                      refine wpAnyH_ready (rs := [6]) (by kernel_rfl) (by simp) ?_
                      refine AllReadyH.cons (o := { dst := some 48, op := _, type := _, pos := _, after := _, guard := _ }) rfl (fun KK hK => ?_) AllReadyH.nil
                      go_simp
                      have E3 : Ext w9 (wk2.alloc (.cells #[.int .i64 x0, .int .i64 x1, .int .i64 x2, .slice ua un uc] 38)) := Ext.alloc E2 _
                      have L3 := lit_pk wk2 38 x0 x1 x2 (.slice ua un uc)
                      have R3 := row_ext R2 ((Ext.refl wk2).alloc (.cells #[.int .i64 x0, .int .i64 x1, .int .i64 x2, .slice ua un uc] 38))
                      obtain ⟨g35, hg35⟩ : ∃ q, q = wk2.heap.size := ⟨_, rfl⟩
                      rw [← hg35] at L3 ⊢
                      clear hg35
                      obtain ⟨wk3, hw3⟩ : ∃ W, W = wk2.alloc (.cells #[.int .i64 x0, .int .i64 x1, .int .i64 x2, .slice ua un uc] 38) := ⟨_, rfl⟩
                      rw [← hw3] at E3 R3 L3 ⊢
                      clear hw3
                      refine hK.out _ _ (by first | exact SKP.out _ E3 | (dsimp only; exact SKP.out _ E3)) (fun hHeld => ?_)
                      clear hK KK
                      try simp only [Act.put, List.setIfInBounds_toArray, List.set_cons_zero, List.set_cons_succ]
                      refine wpAnyH_ready (rs := [7]) (by kernel_rfl) (by simp) ?_
                      refine AllReadyH.cons (o := { dst := some 49, op := _, type := _, pos := _, after := _, guard := _ }) rfl (fun KK hK => ?_) AllReadyH.nil
                      refine step_srcK (by rfl) (.tmp 46) (.tmp 48) 29 (by rfl) w9.heap.size 38 i0 _ 4 48 Try.underlying29 hi hz0 hz1 hz2 rfl (by omega) (by omega) (by omega) _ (0 + I) _ (by rfl) R3 _ 1 [.int .i64 x0, .int .i64 x1, .int .i64 x2, .slice ua un uc] (by rfl) L3 HKP.out.cells (by omega) E3.size ?_
                      intro v4 wk4 R4 G4
                      have E4 : Ext w9 wk4 := Ext.of_grownAt E3 G4 (fun q hq => (R3.lt q hq).1)
                      refine hK.out _ _ (by first | exact SKP.out _ E4 | (dsimp only; exact SKP.out _ E4)) (fun hHeld => ?_)
                      clear hK KK
                      try simp only [Act.put, List.setIfInBounds_toArray, List.set_cons_zero, List.set_cons_succ]
                      refine wpAnyH_ready (rs := [11]) (by kernel_rfl) (by simp) ?_
                      refine AllReadyH.cons (o := { dst := some 53, op := _, type := _, pos := _, after := _, guard := _ }) rfl (fun KK hK => ?_) AllReadyH.nil
                      refine step_srcK (by rfl) (.tmp 49) (.tmp 52) 29 (by rfl) w9.heap.size 38 i0 _ 4 48 Try.underlying29 hi hz0 hz1 hz2 rfl (by omega) (by omega) (by omega) _ (0 + I + 1) _ (by rfl) R4 _ (m' - I) (xs'.drop (I * 4)) (by rfl) (HD.out.ext E4) HKD.out.cells (by omega) E4.size ?_
                      intro v5 wk5 R5 G5
                      have E5 : Ext w9 wk5 := Ext.of_grownAt E4 G5 (fun q hq => (R4.lt q hq).1)
                      refine hK.out _ _ (by first | exact SKP.out _ E5 | (dsimp only; exact SKP.out _ E5)) (fun hHeld => ?_)
                      clear hK KK
                      try simp only [Act.put, List.setIfInBounds_toArray, List.set_cons_zero, List.set_cons_succ]
                      refine wpAnyH_take (i := 12) (oi := { dst := some 3, op := _, type := _, pos := _, after := _, guard := _ }) (v := ?_) rfl (by kernel_rfl) (by kernel_rfl) (by kernel_rfl) (fun _ _ _ h => h) (Or.inl ⟨by rfl, ?_⟩) (by assumption) ?_
                      rotate_left
                      · (intro w hSw; (try dsimp only at hSw); go_simp) <;> (first | done | with_reducible rfl | rfl)
                      try simp only [Act.put, List.setIfInBounds_toArray, List.set_cons_zero, List.set_cons_succ]
                      refine wpAnyH_done (by kernel_rfl) ?_ _
                      refine NoPanic.normal ?_
                      first | (go_wp2_with (fail); go_meet) | go_meet
                      refine ⟨w9.heap.size, 0 + I + 1 + (m' - I), _, hbw9, hga3, E5.size, by omega, R5, ?_, E5⟩
                      exact ((((PkC.nil _ _ _).app (HKT.out.ext E5)).app (HKP.out.ext E5)).app (HKD.out.ext E5))
                    · go_simp
                      have E6 : Ext w9 (wk1.alloc (.cells #[.int .i64 x0, .int .i64 x1, .int .i64 x2, .slice ua un uc] 38)) := Ext.alloc E1 _
                      have L6 := lit_pk wk1 38 x0 x1 x2 (.slice ua un uc)
                      have R6 := row_ext R1 ((Ext.refl wk1).alloc (.cells #[.int .i64 x0, .int .i64 x1, .int .i64 x2, .slice ua un uc] 38))
                      obtain ⟨g35, hg35⟩ : ∃ q, q = wk1.heap.size := ⟨_, rfl⟩
                      have hne : g29 ≠ g35 := by rw [hg35]; omega
                      rw [← hg35] at L6 ⊢
                      clear hg35
                      obtain ⟨wk6, hw6⟩ : ∃ W, W = wk1.alloc (.cells #[.int .i64 x0, .int .i64 x1, .int .i64 x2, .slice ua un uc] 38) := ⟨_, rfl⟩
                      rw [← hw6] at E6 R6 L6 ⊢
                      clear hw6
                      refine hK.out _ _ (by first | exact SKP.out _ E6 | (dsimp only; exact SKP.out _ E6)) (fun hHeld => ?_)
                      clear hK KK
                      try simp only [Act.put, List.setIfInBounds_toArray, List.set_cons_zero, List.set_cons_succ]
                      refine wpAnyH_ready (rs := [4]) (by kernel_rfl) (by simp) ?_
                      refine AllReadyH.cons (o := { dst := some 46, op := _, type := _, pos := _, after := _, guard := _ }) rfl (fun KK hK => ?_) AllReadyH.nil
                      refine step_srcK (by rfl) (.tmp 42) (.tmp 45) 29 (by rfl) w9.heap.size 38 i0 _ 4 48 Try.underlying29 hi hz0 hz1 hz2 rfl (by omega) (by omega) (by omega) _ 0 [] (by rfl) R6 _ I (xs'.take (I * 4)) (by rfl) (HT.out.ext E6) HKT.out.cells (by omega) E6.size ?_
                      intro v7 wk7 R7 G7
                      have E7 : Ext w9 wk7 := Ext.of_grownAt E6 G7 (fun q hq => (R6.lt q hq).1)
                      have L7 := farR L6 G7 (by simp [Value.ownBlock]; omega)
                      refine hK.out _ _ (by first | exact SKP.out _ E7 | (dsimp only; exact SKP.out _ E7)) (fun hHeld => ?_)
                      clear hK KK
                      try simp only [Act.put, List.setIfInBounds_toArray, List.set_cons_zero, List.set_cons_succ]
                      refine wpAnyH_ready (rs := [7]) (by kernel_rfl) (by simp) ?_
                      refine AllReadyH.cons (o := { dst := some 49, op := _, type := _, pos := _, after := _, guard := _ }) rfl (fun KK hK => ?_) AllReadyH.nil
                      refine step_srcK (by rfl) (.tmp 46) (.tmp 48) 29 (by rfl) w9.heap.size 38 i0 _ 4 48 Try.underlying29 hi hz0 hz1 hz2 rfl (by omega) (by omega) (by omega) _ (0 + I) _ (by rfl) R7 _ 1 [.int .i64 x0, .int .i64 x1, .int .i64 x2, .slice ua un uc] (by rfl) L7 HKP.out.cells (by omega) E7.size ?_
                      intro v8 wk8 R8 G8
                      have E8 : Ext w9 wk8 := Ext.of_grownAt E7 G8 (fun q hq => (R7.lt q hq).1)
                      refine hK.out _ _ (by first | exact SKP.out _ E8 | (dsimp only; exact SKP.out _ E8)) (fun hHeld => ?_)
                      clear hK KK
                      try simp only [Act.put, List.setIfInBounds_toArray, List.set_cons_zero, List.set_cons_succ]
                      refine wpAnyH_ready (rs := [11]) (by kernel_rfl) (by simp) ?_
                      refine AllReadyH.cons (o := { dst := some 53, op := _, type := _, pos := _, after := _, guard := _ }) rfl (fun KK hK => ?_) AllReadyH.nil
                      refine step_srcK (by rfl) (.tmp 49) (.tmp 52) 29 (by rfl) w9.heap.size 38 i0 _ 4 48 Try.underlying29 hi hz0 hz1 hz2 rfl (by omega) (by omega) (by omega) _ (0 + I + 1) _ (by rfl) R8 _ (m' - I) (xs'.drop (I * 4)) (by rfl) (HD.out.ext E8) HKD.out.cells (by omega) E8.size ?_
                      intro v9 wk9 R9 G9
                      have E9 : Ext w9 wk9 := Ext.of_grownAt E8 G9 (fun q hq => (R8.lt q hq).1)
                      refine hK.out _ _ (by first | exact SKP.out _ E9 | (dsimp only; exact SKP.out _ E9)) (fun hHeld => ?_)
                      clear hK KK
                      try simp only [Act.put, List.setIfInBounds_toArray, List.set_cons_zero, List.set_cons_succ]
                      refine wpAnyH_take (i := 12) (oi := { dst := some 3, op := _, type := _, pos := _, after := _, guard := _ }) (v := ?_) rfl (by kernel_rfl) (by kernel_rfl) (by kernel_rfl) (fun _ _ _ h => h) (Or.inl ⟨by rfl, ?_⟩) (by assumption) ?_
                      rotate_left
                      · (intro w hSw; (try dsimp only at hSw); go_simp) <;> (first | done | with_reducible rfl | rfl)
                      try simp only [Act.put, List.setIfInBounds_toArray, List.set_cons_zero, List.set_cons_succ]
                      refine wpAnyH_done (by kernel_rfl) ?_ _
                      refine NoPanic.normal ?_
                      first | (go_wp2_with (fail); go_meet) | go_meet
                      refine ⟨w9.heap.size, 0 + I + 1 + (m' - I), _, hbw9, hga3, E9.size, by omega, R9, ?_, E9⟩
                      exact ((((PkC.nil _ _ _).app (HKT.out.ext E9)).app (HKP.out.ext E9)).app (HKD.out.ext E9))
                  · go_simp
                    have E10 : Ext w9 (wd.alloc (.cells #[.int .i64 x0, .int .i64 x1, .int .i64 x2, .slice ua un uc] 38)) := Ext.alloc ED _
                    have L10 := lit_pk wd 38 x0 x1 x2 (.slice ua un uc)
                    obtain ⟨g35, hg35⟩ : ∃ q, q = wd.heap.size := ⟨_, rfl⟩
                    have hlt35 : g35 < (wd.alloc (.cells #[.int .i64 x0, .int .i64 x1, .int .i64 x2, .slice ua un uc] 38)).heap.size := by rw [hg35]; simp
                    rw [← hg35] at L10 ⊢
                    clear hg35
                    obtain ⟨wk10, hw10⟩ : ∃ W, W = wd.alloc (.cells #[.int .i64 x0, .int .i64 x1, .int .i64 x2, .slice ua un uc] 38) := ⟨_, rfl⟩
                    rw [← hw10] at E10 L10 hlt35 ⊢
                    clear hw10
                    refine hK.out _ _ (by first | exact SKP.out _ E10 | (dsimp only; exact SKP.out _ E10)) (fun hHeld => ?_)
                    clear hK KK
                    try simp only [Act.put, List.setIfInBounds_toArray, List.set_cons_zero, List.set_cons_succ]
                    refine wpAnyH_ready (rs := [0]) (by kernel_rfl) (by simp) ?_
                    refine AllReadyH.cons (o := { dst := some 42, op := _, type := _, pos := _, after := _, guard := _ }) rfl (fun KK hK => ?_) AllReadyH.nil
                    go_simp
                    have E11 : Ext w9 (wk10.alloc (.cells #[] 38)) := Ext.alloc E10 _
                    have R11 := row_mono (row_emptyK wk10 38 4) (show w9.heap.size ≤ wk10.heap.size from E10.size)
                    have L11 := RowR.ext L10 ((Ext.refl wk10).alloc (.cells #[] 38))
                    obtain ⟨g29, hg29⟩ : ∃ q, q = wk10.heap.size := ⟨_, rfl⟩
                    have hne : g29 ≠ g35 := by rw [hg29]; omega
                    have hgl : w9.heap.size ≤ g29 := by rw [hg29]; exact E10.size
                    rw [← hg29] at R11 ⊢
                    clear hg29
                    obtain ⟨wk11, hw11⟩ : ∃ W, W = wk10.alloc (.cells #[] 38) := ⟨_, rfl⟩
                    rw [← hw11] at E11 R11 L11 ⊢
                    clear hw11
                    refine hK.out _ _ (by first | exact SKP.out _ E11 | (dsimp only; exact SKP.out _ E11)) (fun hHeld => ?_)
                    clear hK KK
                    try simp only [Act.put, List.setIfInBounds_toArray, List.set_cons_zero, List.set_cons_succ]
                    refine wpAnyH_ready (rs := [4]) (by kernel_rfl) (by simp) ?_
                    refine AllReadyH.cons (o := { dst := some 46, op := _, type := _, pos := _, after := _, guard := _ }) rfl (fun KK hK => ?_) AllReadyH.nil
                    refine step_srcK (by rfl) (.tmp 42) (.tmp 45) 29 (by rfl) w9.heap.size 38 i0 _ 4 48 Try.underlying29 hi hz0 hz1 hz2 rfl (by omega) (by omega) (by omega) _ 0 [] (by rfl) R11 _ I (xs'.take (I * 4)) (by rfl) (HT.out.ext E11) HKT.out.cells (by omega) E11.size ?_
                    intro v12 wk12 R12 G12
                    have E12 : Ext w9 wk12 := Ext.of_grownAt E11 G12 (fun q hq => (R11.lt q hq).1)
                    have L12 := farR L11 G12 (by simp [Value.ownBlock]; omega)
                    refine hK.out _ _ (by first | exact SKP.out _ E12 | (dsimp only; exact SKP.out _ E12)) (fun hHeld => ?_)
                    clear hK KK
                    try simp only [Act.put, List.setIfInBounds_toArray, List.set_cons_zero, List.set_cons_succ]
                    refine wpAnyH_ready (rs := [7]) (by kernel_rfl) (by simp) ?_
                    refine AllReadyH.cons (o := { dst := some 49, op := _, type := _, pos := _, after := _, guard := _ }) rfl (fun KK hK => ?_) AllReadyH.nil
                    refine step_srcK (by rfl) (.tmp 46) (.tmp 48) 29 (by rfl) w9.heap.size 38 i0 _ 4 48 Try.underlying29 hi hz0 hz1 hz2 rfl (by omega) (by omega) (by omega) _ (0 + I) _ (by rfl) R12 _ 1 [.int .i64 x0, .int .i64 x1, .int .i64 x2, .slice ua un uc] (by rfl) L12 HKP.out.cells (by omega) E12.size ?_
                    intro v13 wk13 R13 G13
                    have E13 : Ext w9 wk13 := Ext.of_grownAt E12 G13 (fun q hq => (R12.lt q hq).1)
                    refine hK.out _ _ (by first | exact SKP.out _ E13 | (dsimp only; exact SKP.out _ E13)) (fun hHeld => ?_)
                    clear hK KK
                    try simp only [Act.put, List.setIfInBounds_toArray, List.set_cons_zero, List.set_cons_succ]
                    refine wpAnyH_ready (rs := [11]) (by kernel_rfl) (by simp) ?_
                    refine AllReadyH.cons (o := { dst := some 53, op := _, type := _, pos := _, after := _, guard := _ }) rfl (fun KK hK => ?_) AllReadyH.nil
                    refine step_srcK (by rfl) (.tmp 49) (.tmp 52) 29 (by rfl) w9.heap.size 38 i0 _ 4 48 Try.underlying29 hi hz0 hz1 hz2 rfl (by omega) (by omega) (by omega) _ (0 + I + 1) _ (by rfl) R13 _ (m' - I) (xs'.drop (I * 4)) (by rfl) (HD.out.ext E13) HKD.out.cells (by omega) E13.size ?_
                    intro v14 wk14 R14 G14
                    have E14 : Ext w9 wk14 := Ext.of_grownAt E13 G14 (fun q hq => (R13.lt q hq).1)
                    refine hK.out _ _ (by first | exact SKP.out _ E14 | (dsimp only; exact SKP.out _ E14)) (fun hHeld => ?_)
                    clear hK KK
                    try simp only [Act.put, List.setIfInBounds_toArray, List.set_cons_zero, List.set_cons_succ]
                    refine wpAnyH_take (i := 12) (oi := { dst := some 3, op := _, type := _, pos := _, after := _, guard := _ }) (v := ?_) rfl (by kernel_rfl) (by kernel_rfl) (by kernel_rfl) (fun _ _ _ h => h) (Or.inl ⟨by rfl, ?_⟩) (by assumption) ?_
                    rotate_left
                    · (intro w hSw; (try dsimp only at hSw); go_simp) <;> (first | done | with_reducible rfl | rfl)
                    try simp only [Act.put, List.setIfInBounds_toArray, List.set_cons_zero, List.set_cons_succ]
                    refine wpAnyH_done (by kernel_rfl) ?_ _
                    refine NoPanic.normal ?_
                    first | (go_wp2_with (fail); go_meet) | go_meet
                    refine ⟨w9.heap.size, 0 + I + 1 + (m' - I), _, hbw9, hga3, E14.size, by omega, R14, ?_, E14⟩
                    exact ((((PkC.nil _ _ _).app (HKT.out.ext E14)).app (HKP.out.ext E14)).app (HKD.out.ext E14))
                · have hcmb : (c4 == I) = false := by simpa using hcm4
                  have HT := hid (show RowR w9 4 (.slice (some ⟨g4, 0, none⟩) I c4) I (xs'.take (I * 4)) from takeR hHT0 hI)
                  have HD := hid (show RowR w9 4 (.slice (some ⟨g4, I * 4, none⟩) (m' - I) (c4 - I)) (m' - I) (xs'.drop (I * 4)) from by have := dropR hHT0 hI; simpa using this)
                  clear hHT0
                  refine wp_region_noPanic ?_
                  refine wp_region_held_drew (S := (fun W => W.cell? ⟨b7, 0, none⟩ = some (.int .i64 x0) ∧ W.cell? ⟨b7, 1, none⟩ = some (.int .i64 x1) ∧ W.cell? ⟨b7, 2, none⟩ = some (.int .i64 x2) ∧ W.cell? ⟨b7, 3, none⟩ = some (.slice ua un uc))) (by kernel_rfl) ?_ (fun hHeld => ?_)
                  · first | exact SKP.out _ (EB.drew) | (dsimp only; exact SKP.out _ (EB.drew))
                  have ED := EB.drew
                  generalize w9.drew = wd at *
                  refine wpAnyH_take (i := 1) (oi := { dst := some 43, op := _, type := _, pos := _, after := _, guard := _ }) (v := ?_) rfl (by kernel_rfl) (by kernel_rfl) (by kernel_rfl) (fun _ _ _ h => h) (Or.inl ⟨by rfl, ?_⟩) (by assumption) ?_
                  rotate_left
                  · (intro w hSw; (try dsimp only at hSw); go_simp) <;> (first | done | with_reducible rfl | rfl)
                  try simp only [Act.put, List.setIfInBounds_toArray, List.set_cons_zero, List.set_cons_succ]
                  refine wpAnyH_take (i := 2) (oi := { dst := some 44, op := _, type := _, pos := _, after := _, guard := _ }) (v := ?_) rfl (by kernel_rfl) (by kernel_rfl) (by kernel_rfl) (fun _ _ _ h => h) (Or.inl ⟨by rfl, ?_⟩) (by assumption) ?_
                  rotate_left
                  · (intro w hSw; (try dsimp only at hSw); go_simp) <;> (first | done | with_reducible rfl | rfl)
                  try simp only [Act.put, List.setIfInBounds_toArray, List.set_cons_zero, List.set_cons_succ]
                  refine wpAnyH_take (i := 3) (oi := { dst := some 45, op := _, type := _, pos := _, after := _, guard := _ }) (v := ?_) rfl (by kernel_rfl) (by kernel_rfl) (by kernel_rfl) (fun _ _ _ h => h) (Or.inl ⟨by rfl, ?_⟩) (by assumption) ?_
                  rotate_left
                  · (intro w hSw; (try dsimp only at hSw); go_simp) <;> (first | done | with_reducible rfl | rfl)
                  try simp only [Act.put, List.setIfInBounds_toArray, List.set_cons_zero, List.set_cons_succ]
                  refine wpAnyH_take (i := 5) (oi := { dst := some 47, op := _, type := _, pos := _, after := _, guard := _ }) (v := ?_) rfl (by kernel_rfl) (by kernel_rfl) (by kernel_rfl) (fun _ _ _ h => h) (Or.inl ⟨by rfl, ?_⟩) (by assumption) ?_
                  rotate_left
                  · (intro w hSw; (try dsimp only at hSw); go_simp) <;> (first | done | with_reducible rfl | rfl)
                  try simp only [Act.put, List.setIfInBounds_toArray, List.set_cons_zero, List.set_cons_succ]
                  refine wpAnyH_take (i := 8) (oi := { dst := some 50, op := _, type := _, pos := _, after := _, guard := _ }) (v := ?_) rfl (by kernel_rfl) (by kernel_rfl) (by kernel_rfl) (fun _ _ _ h => h) (Or.inl ⟨by rfl, ?_⟩) (by assumption) ?_
                  rotate_left
                  · (intro w hSw; (try dsimp only at hSw); go_simp) <;> (first | done | with_reducible rfl | rfl)
                  try simp only [Act.put, List.setIfInBounds_toArray, List.set_cons_zero, List.set_cons_succ]
                  refine wpAnyH_take (i := 9) (oi := { dst := some 51, op := _, type := _, pos := _, after := _, guard := _ }) (v := ?_) rfl (by kernel_rfl) (by kernel_rfl) (by kernel_rfl) (fun _ _ _ h => h) (Or.inl ⟨by rfl, ?_⟩) (by assumption) ?_
                  rotate_left
                  · (intro w hSw; (try dsimp only at hSw); go_simp) <;> (first | done | with_reducible rfl | rfl)
                  try simp only [Act.put, List.setIfInBounds_toArray, List.set_cons_zero, List.set_cons_succ]
                  refine wpAnyH_take (i := 10) (oi := { dst := some 52, op := _, type := _, pos := _, after := _, guard := _ }) (v := ?_) rfl (by kernel_rfl) (by kernel_rfl) (by kernel_rfl) (fun _ _ _ h => h) (Or.inl ⟨by rfl, ?_⟩) (by assumption) ?_
                  rotate_left
                  · (intro w hSw; (try dsimp only at hSw); go_simp) <;> (first | done | with_reducible rfl | rfl)
                  try simp only [Act.put, List.setIfInBounds_toArray, List.set_cons_zero, List.set_cons_succ]
                  refine wpAnyH_ready (rs := [0, 6]) (by kernel_rfl) (by simp) ?_
                  refine AllReadyH.cons (o := { dst := some 42, op := _, type := _, pos := _, after := _, guard := _ }) rfl (fun KK hK => ?_) (AllReadyH.cons (o := { dst := some 48, op := _, type := _, pos := _, after := _, guard := _ }) rfl (fun KK hK => ?_) AllReadyH.nil)
                  · go_simp
                    have E1 : Ext w9 (wd.alloc (.cells #[] 38)) := Ext.alloc ED _
                    have R1 := row_mono (row_emptyK wd 38 4) (show w9.heap.size ≤ wd.heap.size from ED.size)
                    obtain ⟨g29, hg29⟩ : ∃ q, q = wd.heap.size := ⟨_, rfl⟩
                    have hgl : w9.heap.size ≤ g29 := by rw [hg29]; exact ED.size
                    have hlt29 : g29 < (wd.alloc (.cells #[] 38)).heap.size := by rw [hg29]; simp
                    rw [← hg29] at R1 ⊢
                    clear hg29
                    obtain ⟨wk1, hw1⟩ : ∃ W, W = wd.alloc (.cells #[] 38) := ⟨_, rfl⟩
                    rw [← hw1] at E1 R1 hlt29 ⊢
                    clear hw1
                    refine hK.out _ _ (by first | exact SKP.out _ E1 | (dsimp only; exact SKP.out _ E1)) (fun hHeld => ?_)
                    clear hK KK
                    try simp only [Act.put, List.setIfInBounds_toArray, List.set_cons_zero, List.set_cons_succ]
                    refine wpAnyH_ready (rs := [4, 6]) (by kernel_rfl) (by simp) ?_
                    refine AllReadyH.cons (o := { dst := some 46, op := _, type := _, pos := _, after := _, guard := _ }) rfl (fun KK hK => ?_) (AllReadyH.cons (o := { dst := some 48, op := _, type := _, pos := _, after := _, guard := _ }) rfl (fun KK hK => ?_) AllReadyH.nil)
                    · refine step_srcK (by rfl) (.tmp 42) (.tmp 45) 29 (by rfl) w9.heap.size 38 i0 _ 4 48 Try.underlying29 hi hz0 hz1 hz2 rfl (by omega) (by omega) (by omega) _ 0 [] (by rfl) R1 _ I (xs'.take (I * 4)) (by rfl) (HT.out.ext E1) HKT.out.cells (by omega) E1.size ?_
                      intro v2 wk2 R2 G2
                      have E2 : Ext w9 wk2 := Ext.of_grownAt E1 G2 (fun q hq => (R1.lt q hq).1)
                      refine hK.out _ _ (by first | exact SKP.out _ E2 | (dsimp only; exact SKP.out _ E2)) (fun hHeld => ?_)
                      clear hK KK
                      try simp only [Act.put, List.setIfInBounds_toArray, List.set_cons_zero, List.set_cons_succ]
                      refine wpAnyH_ready (rs := [6]) (by kernel_rfl) (by simp) ?_
                      refine AllReadyH.cons (o := { dst := some 48, op := _, type := _, pos := _, after := _, guard := _ }) rfl (fun KK hK => ?_) AllReadyH.nil
                      go_simp
                      have E3 : Ext w9 (wk2.alloc (.cells #[.int .i64 x0, .int .i64 x1, .int .i64 x2, .slice ua un uc] 38)) := Ext.alloc E2 _
                      have L3 := lit_pk wk2 38 x0 x1 x2 (.slice ua un uc)
                      have R3 := row_ext R2 ((Ext.refl wk2).alloc (.cells #[.int .i64 x0, .int .i64 x1, .int .i64 x2, .slice ua un uc] 38))
                      obtain ⟨g35, hg35⟩ : ∃ q, q = wk2.heap.size := ⟨_, rfl⟩
                      rw [← hg35] at L3 ⊢
                      clear hg35
                      obtain ⟨wk3, hw3⟩ : ∃ W, W = wk2.alloc (.cells #[.int .i64 x0, .int .i64 x1, .int .i64 x2, .slice ua un uc] 38) := ⟨_, rfl⟩
                      rw [← hw3] at E3 R3 L3 ⊢
                      clear hw3
                      refine hK.out _ _ (by first | exact SKP.out _ E3 | (dsimp only; exact SKP.out _ E3)) (fun hHeld => ?_)
                      clear hK KK
                      try simp only [Act.put, List.setIfInBounds_toArray, List.set_cons_zero, List.set_cons_succ]
                      refine wpAnyH_ready (rs := [7]) (by kernel_rfl) (by simp) ?_
                      refine AllReadyH.cons (o := { dst := some 49, op := _, type := _, pos := _, after := _, guard := _ }) rfl (fun KK hK => ?_) AllReadyH.nil
                      refine step_srcK (by rfl) (.tmp 46) (.tmp 48) 29 (by rfl) w9.heap.size 38 i0 _ 4 48 Try.underlying29 hi hz0 hz1 hz2 rfl (by omega) (by omega) (by omega) _ (0 + I) _ (by rfl) R3 _ 1 [.int .i64 x0, .int .i64 x1, .int .i64 x2, .slice ua un uc] (by rfl) L3 HKP.out.cells (by omega) E3.size ?_
                      intro v4 wk4 R4 G4
                      have E4 : Ext w9 wk4 := Ext.of_grownAt E3 G4 (fun q hq => (R3.lt q hq).1)
                      refine hK.out _ _ (by first | exact SKP.out _ E4 | (dsimp only; exact SKP.out _ E4)) (fun hHeld => ?_)
                      clear hK KK
                      try simp only [Act.put, List.setIfInBounds_toArray, List.set_cons_zero, List.set_cons_succ]
                      refine wpAnyH_ready (rs := [11]) (by kernel_rfl) (by simp) ?_
                      refine AllReadyH.cons (o := { dst := some 53, op := _, type := _, pos := _, after := _, guard := _ }) rfl (fun KK hK => ?_) AllReadyH.nil
                      refine step_srcK (by rfl) (.tmp 49) (.tmp 52) 29 (by rfl) w9.heap.size 38 i0 _ 4 48 Try.underlying29 hi hz0 hz1 hz2 rfl (by omega) (by omega) (by omega) _ (0 + I + 1) _ (by rfl) R4 _ (m' - I) (xs'.drop (I * 4)) (by rfl) (HD.out.ext E4) HKD.out.cells (by omega) E4.size ?_
                      intro v5 wk5 R5 G5
                      have E5 : Ext w9 wk5 := Ext.of_grownAt E4 G5 (fun q hq => (R4.lt q hq).1)
                      refine hK.out _ _ (by first | exact SKP.out _ E5 | (dsimp only; exact SKP.out _ E5)) (fun hHeld => ?_)
                      clear hK KK
                      try simp only [Act.put, List.setIfInBounds_toArray, List.set_cons_zero, List.set_cons_succ]
                      refine wpAnyH_take (i := 12) (oi := { dst := some 3, op := _, type := _, pos := _, after := _, guard := _ }) (v := ?_) rfl (by kernel_rfl) (by kernel_rfl) (by kernel_rfl) (fun _ _ _ h => h) (Or.inl ⟨by rfl, ?_⟩) (by assumption) ?_
                      rotate_left
                      · (intro w hSw; (try dsimp only at hSw); go_simp) <;> (first | done | with_reducible rfl | rfl)
                      try simp only [Act.put, List.setIfInBounds_toArray, List.set_cons_zero, List.set_cons_succ]
                      refine wpAnyH_done (by kernel_rfl) ?_ _
                      refine NoPanic.normal ?_
                      first | (go_wp2_with (fail); go_meet) | go_meet
                      refine ⟨w9.heap.size, 0 + I + 1 + (m' - I), _, hbw9, hga3, E5.size, by omega, R5, ?_, E5⟩
                      exact ((((PkC.nil _ _ _).app (HKT.out.ext E5)).app (HKP.out.ext E5)).app (HKD.out.ext E5))
                    · go_simp
                      have E6 : Ext w9 (wk1.alloc (.cells #[.int .i64 x0, .int .i64 x1, .int .i64 x2, .slice ua un uc] 38)) := Ext.alloc E1 _
                      have L6 := lit_pk wk1 38 x0 x1 x2 (.slice ua un uc)
                      have R6 := row_ext R1 ((Ext.refl wk1).alloc (.cells #[.int .i64 x0, .int .i64 x1, .int .i64 x2, .slice ua un uc] 38))
                      obtain ⟨g35, hg35⟩ : ∃ q, q = wk1.heap.size := ⟨_, rfl⟩
                      have hne : g29 ≠ g35 := by rw [hg35]; omega
                      rw [← hg35] at L6 ⊢
                      clear hg35
                      obtain ⟨wk6, hw6⟩ : ∃ W, W = wk1.alloc (.cells #[.int .i64 x0, .int .i64 x1, .int .i64 x2, .slice ua un uc] 38) := ⟨_, rfl⟩
                      rw [← hw6] at E6 R6 L6 ⊢
                      clear hw6
                      refine hK.out _ _ (by first | exact SKP.out _ E6 | (dsimp only; exact SKP.out _ E6)) (fun hHeld => ?_)
                      clear hK KK
                      try simp only [Act.put, List.setIfInBounds_toArray, List.set_cons_zero, List.set_cons_succ]
                      refine wpAnyH_ready (rs := [4]) (by kernel_rfl) (by simp) ?_
                      refine AllReadyH.cons (o := { dst := some 46, op := _, type := _, pos := _, after := _, guard := _ }) rfl (fun KK hK => ?_) AllReadyH.nil
                      refine step_srcK (by rfl) (.tmp 42) (.tmp 45) 29 (by rfl) w9.heap.size 38 i0 _ 4 48 Try.underlying29 hi hz0 hz1 hz2 rfl (by omega) (by omega) (by omega) _ 0 [] (by rfl) R6 _ I (xs'.take (I * 4)) (by rfl) (HT.out.ext E6) HKT.out.cells (by omega) E6.size ?_
                      intro v7 wk7 R7 G7
                      have E7 : Ext w9 wk7 := Ext.of_grownAt E6 G7 (fun q hq => (R6.lt q hq).1)
                      have L7 := farR L6 G7 (by simp [Value.ownBlock]; omega)
                      refine hK.out _ _ (by first | exact SKP.out _ E7 | (dsimp only; exact SKP.out _ E7)) (fun hHeld => ?_)
                      clear hK KK
                      try simp only [Act.put, List.setIfInBounds_toArray, List.set_cons_zero, List.set_cons_succ]
                      refine wpAnyH_ready (rs := [7]) (by kernel_rfl) (by simp) ?_
                      refine AllReadyH.cons (o := { dst := some 49, op := _, type := _, pos := _, after := _, guard := _ }) rfl (fun KK hK => ?_) AllReadyH.nil
                      refine step_srcK (by rfl) (.tmp 46) (.tmp 48) 29 (by rfl) w9.heap.size 38 i0 _ 4 48 Try.underlying29 hi hz0 hz1 hz2 rfl (by omega) (by omega) (by omega) _ (0 + I) _ (by rfl) R7 _ 1 [.int .i64 x0, .int .i64 x1, .int .i64 x2, .slice ua un uc] (by rfl) L7 HKP.out.cells (by omega) E7.size ?_
                      intro v8 wk8 R8 G8
                      have E8 : Ext w9 wk8 := Ext.of_grownAt E7 G8 (fun q hq => (R7.lt q hq).1)
                      refine hK.out _ _ (by first | exact SKP.out _ E8 | (dsimp only; exact SKP.out _ E8)) (fun hHeld => ?_)
                      clear hK KK
                      try simp only [Act.put, List.setIfInBounds_toArray, List.set_cons_zero, List.set_cons_succ]
                      refine wpAnyH_ready (rs := [11]) (by kernel_rfl) (by simp) ?_
                      refine AllReadyH.cons (o := { dst := some 53, op := _, type := _, pos := _, after := _, guard := _ }) rfl (fun KK hK => ?_) AllReadyH.nil
                      refine step_srcK (by rfl) (.tmp 49) (.tmp 52) 29 (by rfl) w9.heap.size 38 i0 _ 4 48 Try.underlying29 hi hz0 hz1 hz2 rfl (by omega) (by omega) (by omega) _ (0 + I + 1) _ (by rfl) R8 _ (m' - I) (xs'.drop (I * 4)) (by rfl) (HD.out.ext E8) HKD.out.cells (by omega) E8.size ?_
                      intro v9 wk9 R9 G9
                      have E9 : Ext w9 wk9 := Ext.of_grownAt E8 G9 (fun q hq => (R8.lt q hq).1)
                      refine hK.out _ _ (by first | exact SKP.out _ E9 | (dsimp only; exact SKP.out _ E9)) (fun hHeld => ?_)
                      clear hK KK
                      try simp only [Act.put, List.setIfInBounds_toArray, List.set_cons_zero, List.set_cons_succ]
                      refine wpAnyH_take (i := 12) (oi := { dst := some 3, op := _, type := _, pos := _, after := _, guard := _ }) (v := ?_) rfl (by kernel_rfl) (by kernel_rfl) (by kernel_rfl) (fun _ _ _ h => h) (Or.inl ⟨by rfl, ?_⟩) (by assumption) ?_
                      rotate_left
                      · (intro w hSw; (try dsimp only at hSw); go_simp) <;> (first | done | with_reducible rfl | rfl)
                      try simp only [Act.put, List.setIfInBounds_toArray, List.set_cons_zero, List.set_cons_succ]
                      refine wpAnyH_done (by kernel_rfl) ?_ _
                      refine NoPanic.normal ?_
                      first | (go_wp2_with (fail); go_meet) | go_meet
                      refine ⟨w9.heap.size, 0 + I + 1 + (m' - I), _, hbw9, hga3, E9.size, by omega, R9, ?_, E9⟩
                      exact ((((PkC.nil _ _ _).app (HKT.out.ext E9)).app (HKP.out.ext E9)).app (HKD.out.ext E9))
                  · go_simp
                    have E10 : Ext w9 (wd.alloc (.cells #[.int .i64 x0, .int .i64 x1, .int .i64 x2, .slice ua un uc] 38)) := Ext.alloc ED _
                    have L10 := lit_pk wd 38 x0 x1 x2 (.slice ua un uc)
                    obtain ⟨g35, hg35⟩ : ∃ q, q = wd.heap.size := ⟨_, rfl⟩
                    have hlt35 : g35 < (wd.alloc (.cells #[.int .i64 x0, .int .i64 x1, .int .i64 x2, .slice ua un uc] 38)).heap.size := by rw [hg35]; simp
                    rw [← hg35] at L10 ⊢
                    clear hg35
                    obtain ⟨wk10, hw10⟩ : ∃ W, W = wd.alloc (.cells #[.int .i64 x0, .int .i64 x1, .int .i64 x2, .slice ua un uc] 38) := ⟨_, rfl⟩
                    rw [← hw10] at E10 L10 hlt35 ⊢
                    clear hw10
                    refine hK.out _ _ (by first | exact SKP.out _ E10 | (dsimp only; exact SKP.out _ E10)) (fun hHeld => ?_)
                    clear hK KK
                    try simp only [Act.put, List.setIfInBounds_toArray, List.set_cons_zero, List.set_cons_succ]
                    refine wpAnyH_ready (rs := [0]) (by kernel_rfl) (by simp) ?_
                    refine AllReadyH.cons (o := { dst := some 42, op := _, type := _, pos := _, after := _, guard := _ }) rfl (fun KK hK => ?_) AllReadyH.nil
                    go_simp
                    have E11 : Ext w9 (wk10.alloc (.cells #[] 38)) := Ext.alloc E10 _
                    have R11 := row_mono (row_emptyK wk10 38 4) (show w9.heap.size ≤ wk10.heap.size from E10.size)
                    have L11 := RowR.ext L10 ((Ext.refl wk10).alloc (.cells #[] 38))
                    obtain ⟨g29, hg29⟩ : ∃ q, q = wk10.heap.size := ⟨_, rfl⟩
                    have hne : g29 ≠ g35 := by rw [hg29]; omega
                    have hgl : w9.heap.size ≤ g29 := by rw [hg29]; exact E10.size
                    rw [← hg29] at R11 ⊢
                    clear hg29
                    obtain ⟨wk11, hw11⟩ : ∃ W, W = wk10.alloc (.cells #[] 38) := ⟨_, rfl⟩
                    rw [← hw11] at E11 R11 L11 ⊢
                    clear hw11
                    refine hK.out _ _ (by first | exact SKP.out _ E11 | (dsimp only; exact SKP.out _ E11)) (fun hHeld => ?_)
                    clear hK KK
                    try simp only [Act.put, List.setIfInBounds_toArray, List.set_cons_zero, List.set_cons_succ]
                    refine wpAnyH_ready (rs := [4]) (by kernel_rfl) (by simp) ?_
                    refine AllReadyH.cons (o := { dst := some 46, op := _, type := _, pos := _, after := _, guard := _ }) rfl (fun KK hK => ?_) AllReadyH.nil
                    refine step_srcK (by rfl) (.tmp 42) (.tmp 45) 29 (by rfl) w9.heap.size 38 i0 _ 4 48 Try.underlying29 hi hz0 hz1 hz2 rfl (by omega) (by omega) (by omega) _ 0 [] (by rfl) R11 _ I (xs'.take (I * 4)) (by rfl) (HT.out.ext E11) HKT.out.cells (by omega) E11.size ?_
                    intro v12 wk12 R12 G12
                    have E12 : Ext w9 wk12 := Ext.of_grownAt E11 G12 (fun q hq => (R11.lt q hq).1)
                    have L12 := farR L11 G12 (by simp [Value.ownBlock]; omega)
                    refine hK.out _ _ (by first | exact SKP.out _ E12 | (dsimp only; exact SKP.out _ E12)) (fun hHeld => ?_)
                    clear hK KK
                    try simp only [Act.put, List.setIfInBounds_toArray, List.set_cons_zero, List.set_cons_succ]
                    refine wpAnyH_ready (rs := [7]) (by kernel_rfl) (by simp) ?_
                    refine AllReadyH.cons (o := { dst := some 49, op := _, type := _, pos := _, after := _, guard := _ }) rfl (fun KK hK => ?_) AllReadyH.nil
                    refine step_srcK (by rfl) (.tmp 46) (.tmp 48) 29 (by rfl) w9.heap.size 38 i0 _ 4 48 Try.underlying29 hi hz0 hz1 hz2 rfl (by omega) (by omega) (by omega) _ (0 + I) _ (by rfl) R12 _ 1 [.int .i64 x0, .int .i64 x1, .int .i64 x2, .slice ua un uc] (by rfl) L12 HKP.out.cells (by omega) E12.size ?_
                    intro v13 wk13 R13 G13
                    have E13 : Ext w9 wk13 := Ext.of_grownAt E12 G13 (fun q hq => (R12.lt q hq).1)
                    refine hK.out _ _ (by first | exact SKP.out _ E13 | (dsimp only; exact SKP.out _ E13)) (fun hHeld => ?_)
                    clear hK KK
                    try simp only [Act.put, List.setIfInBounds_toArray, List.set_cons_zero, List.set_cons_succ]
                    refine wpAnyH_ready (rs := [11]) (by kernel_rfl) (by simp) ?_
                    refine AllReadyH.cons (o := { dst := some 53, op := _, type := _, pos := _, after := _, guard := _ }) rfl (fun KK hK => ?_) AllReadyH.nil
                    refine step_srcK (by rfl) (.tmp 49) (.tmp 52) 29 (by rfl) w9.heap.size 38 i0 _ 4 48 Try.underlying29 hi hz0 hz1 hz2 rfl (by omega) (by omega) (by omega) _ (0 + I + 1) _ (by rfl) R13 _ (m' - I) (xs'.drop (I * 4)) (by rfl) (HD.out.ext E13) HKD.out.cells (by omega) E13.size ?_
                    intro v14 wk14 R14 G14
                    have E14 : Ext w9 wk14 := Ext.of_grownAt E13 G14 (fun q hq => (R13.lt q hq).1)
                    refine hK.out _ _ (by first | exact SKP.out _ E14 | (dsimp only; exact SKP.out _ E14)) (fun hHeld => ?_)
                    clear hK KK
                    try simp only [Act.put, List.setIfInBounds_toArray, List.set_cons_zero, List.set_cons_succ]
                    refine wpAnyH_take (i := 12) (oi := { dst := some 3, op := _, type := _, pos := _, after := _, guard := _ }) (v := ?_) rfl (by kernel_rfl) (by kernel_rfl) (by kernel_rfl) (fun _ _ _ h => h) (Or.inl ⟨by rfl, ?_⟩) (by assumption) ?_
                    rotate_left
                    · (intro w hSw; (try dsimp only at hSw); go_simp) <;> (first | done | with_reducible rfl | rfl)
                    try simp only [Act.put, List.setIfInBounds_toArray, List.set_cons_zero, List.set_cons_succ]
                    refine wpAnyH_done (by kernel_rfl) ?_ _
                    refine NoPanic.normal ?_
                    first | (go_wp2_with (fail); go_meet) | go_meet
                    refine ⟨w9.heap.size, 0 + I + 1 + (m' - I), _, hbw9, hga3, E14.size, by omega, R14, ?_, E14⟩
                    exact ((((PkC.nil _ _ _).app (HKT.out.ext E14)).app (HKP.out.ext E14)).app (HKD.out.ext E14))
            case rest =>
              obtain ⟨bL, mm, xs9, hbL1, hbL2, hbL3, hmm, hrow, hC, hE9⟩ := hcut
              clear HO
              obtain ⟨a5, c5, rfl, _, _, _⟩ := row_shape hrow
              have hcx := hc9.ext hE9
              have HA2 := hid (HA.out.ext hE9)
              have HS2 := hid (HS.out.ext hE9)
              replace T7 := T7.ext hE9
              have hg0c := hg09.trans (hE9.grown.but (some B))
              have hw7 := T7.2.2.2.2.2.2.2.2
              have HROW := hid hrow
              have HC := hid hC
              clear hc9 HA HS hg09 hE9 hrow hC
              go_wp2_with (fail)
              refine (oneS 6 hcx (by omega)).mono ?_
              rintro e w10 ⟨o10, q10, rfl, hq10, hq10', hc10, hg10⟩
              have HR2 := hid (HROW.out.kept hg10 (.inr (fun e => by have := (HROW.out.lt _ e).1; omega)))
              have HC2 := hid (HC.out.far hg10 (fun k hk => by simp at hk; omega))
              have HA3 := hid (HA2.out.far hg10 (fun k hk => by simp at hk; omega))
              have HS3 := hid (HS2.out.far hg10 (fun k hk => by simp at hk; omega))
              replace T7 := T7.grown hg10 (by simp; omega)
              have hg00 := hg0c.trans hg10
              have hbL4 := hg10.size
              clear HROW HC HA2 HS2 hcx hg0c hg10 hw7
              cases o10 with
              | false =>
                go_wp2_with (fail)
                go_roundw
                case rel =>
                  refine ⟨j + 1, mm, xs9, q10, by omega, by go_num, ⟨row_mono HR2.out hbL1, HC2.out⟩, by omega, HA3.out, fun k h1 h2 => ?_, by omega, hc10, hg00⟩
                  have h3 := (HR2.out.lt k h1).1
                  simp [Value.ownBlock] at h2
                  omega
                case measure => simp [intOf]; omega
              | true =>
                obtain ⟨d0, d1, d2, d3, _, _, _, _, hb7⟩ := T7
                go_wp2_with (fail)
                refine (pkOwn_any x0 x1 x2 _ un s _ (by have := HS3.out.ints; rw [← HUN.out] at this; exact this) (by have := HUN.out; omega)).mono ?_
                rintro e w11 ⟨v', rfl, hs11, hb11⟩
                have hK1 : PkC 12 w11 w.heap.size 1 [.int .i64 x0, .int .i64 x1, .int .i64 x2, v'] := PkC.one wx0 wx1 wx2 (hs11.mono (by omega)) hsl
                obtain ⟨a11, c11, e11⟩ := introw_slice hs11.ints
                rw [← HUN.out] at e11
                subst e11
                have HK1 := hid hK1
                have HR3 := hid (row_ext HR2.out hb11)
                have HC3 := hid (HC2.out.ext hb11)
                have HA4 := hid (HA3.out.ext hb11)
                have hc11 := hc10.ext hb11
                have hg11 := hg00.trans (hb11.grown.but (some B))
                have hbL5 := hb11.size
                clear hs11 hK1 HR2 HC2 HA3 HS3 hc10 hg00 hb11 d0 d1 d2 d3
                go_wp2_with (at_builtin; go_loud (refine wpList_srcK rfl (.tmp 56) (.tmp 59) 29 rfl bL 38 i0 _ 4 48 Try.underlying29 hi hz0 hz1 hz2 rfl (by omega) (by omega) (by omega) _ mm xs9 rfl (row_ext HR3.out ((Ext.refl _).alloc _)) _ 1 _ rfl (lit_pk _ _ _ _ _ _) HK1.out.cells (by omega) (by simp only [World.size_alloc]; omega) ?_; intro v2 wz hr1 hgz; have HC5 := hid (((HC3.out.ext ((Ext.refl w11).alloc _)).app (HK1.out.ext ((Ext.refl w11).alloc _))).spine (row_ext HR3.out ((Ext.refl w11).alloc _)) hgz); have HA5 := hid (PkO.off (HA4.out.ext ((Ext.refl w11).alloc _)) (row_ext HR3.out ((Ext.refl w11).alloc _)) hgz (fun k h1 h2 => by have h3 := (HR3.out.lt k h1).1; simp [Value.ownBlock] at h2; omega)); have hcz : CS wz B vc n zc q10 := CS.far (hc11.ext ((Ext.refl _).alloc _)) hgz (fun k hk => by have := (HR3.out.lt k hk).1; omega); have hgz0 : w.grownBy wz (some B) := World.grownBy.andThen (World.grownBy.trans hg11 (((Ext.refl _).alloc _ : Ext w11 _).grown.but (some B))) hgz (fun k hk => .inl (by have := (HR3.out.lt k hk).1; omega)); obtain ⟨a2, c2, rfl, _, _, _⟩ := row_shape hr1; have HR5 := hid hr1; clear hr1 hgz))
                go_roundw
                case rel =>
                  refine ⟨j + 1, mm + 1, _, q10, by omega, by go_num, ⟨row_mono HR5.out hbL1, HC5.out⟩, by omega, HA5.out, fun k h1 h2 => ?_, by omega, hcz, hgz0⟩
                  have h3 := (HR5.out.lt k h1).1
                  simp [Value.ownBlock] at h2
                  omega
                case measure => simp [intOf]; omega
        · obtain rfl : j = na := by omega
          have t2 : decide ((j : Int) < (j : Int)) = false := by simp
          clear hlt hj hA
          go_wp2_with (fail)
          go_roundw
          case rel => exact ⟨k - 1, m', xs', qr', by omega, by omega, by first | rfl | go_num, HO.out, by omega, by omega, hcr, hgr⟩
          case measure => simp [intOf]; omega
    · have t1 : decide ((0 : Int) ≤ k) = false := by simpa using hk0
      obtain rfl : k = -1 := by omega
      go_wp2_with (fail)
      refine (pickS 12 hcr (by omega)).mono ?_
      rintro e w2 ⟨z, q2, rfl, hp0, _, hp1, hq2, hq2', hc2, hg2⟩
      replace hp1 := hp1 (by omega)
      have HO2 := hid (HO.out.far hg2 (fun k hk => by simp at hk; omega))
      have hg02 := hgr.trans hg2
      have hm36 : m ≤ 36 := by omega
      have hq36 : q2 ≤ q + 760 := by omega
      clear HO hcr hgr hg2 hq2 hq2' hka hkb hqr hm hp1 hk0 t1
      have hb2 := hg02.size
      have hf3 : ∀ k, (Value.slice a3 m c3).ownBlock = some k → B < k := fun k hk => by have := (HO2.out.1.lt k hk).1; omega
      have HF := hid hf3
      clear hf3
      go_upto_block 4 with (fail)
      go_cut [3] from 64 to 110 (fun s3 wx => ∃ (m' : Nat) (xs' : List Value) (q' : Nat), PkO 13 wx w.heap.size s3 m' xs' ∧ m' ≤ 41 ∧ q' ≤ q + 2000 ∧ CS wx B vc n zc q' ∧ w.grownBy wx (some B))
      case first =>
        by_cases z0 : z = 0
        · subst z0
          go_wp2_with (fail)
          refine (packetS hc2 (by omega)).mono ?_
          rintro e w3 ⟨x0, x1, x2, u, s, q3, rfl, wx0, wx1, wx2, hs, hsl, hq3, hc3, hg3⟩
          have HO3 := hid (HO2.out.far hg3 (fun k hk => by simp at hk; omega))
          have hg03 := hg02.trans hg3
          have HK1 := hid (show PkC 12 w3 w.heap.size 1 [.int .i64 x0, .int .i64 x1, .int .i64 x2, u] from PkC.one wx0 wx1 wx2 (hs.mono (by omega)) hsl)
          obtain ⟨ua, uc, e3⟩ := introw_slice hs.ints
          generalize s.length = un at e3 hsl
          subst e3
          have hb3 := hg03.size
          clear hs HO2 hc2 hg02 hg3
          go_wp2_with (at_builtin; go_loud (refine wpList_srcK rfl (.tmp 66) (.tmp 69) 29 rfl w.heap.size 38 i0 _ 4 48 Try.underlying29 hi hz0 hz1 hz2 rfl (by omega) (by omega) (by omega) _ m xs rfl (row_ext HO3.out.1 ((Ext.refl _).alloc _)) _ 1 _ rfl (lit_pk _ _ _ _ _ _) HK1.out.cells (by omega) (by simp only [World.size_alloc]; omega) ?_; intro v2 wz hr1 hgz; have hOz := hid (PkO.grow (HO3.out.ext ((Ext.refl w3).alloc _)) (HK1.out.ext ((Ext.refl w3).alloc _)) hr1 hgz); have hcz : CS wz B vc n zc q3 := CS.far (hc3.ext ((Ext.refl _).alloc _)) hgz (fun k hk => HF.out k hk); have hgz0 : w.grownBy wz (some B) := World.grownBy.andThen (World.grownBy.trans hg03 (((Ext.refl _).alloc _ : Ext w3 _).grown.but (some B))) hgz (fun k hk => .inl (HO3.out.1.lt k hk).1); obtain ⟨a2, c2, rfl, _, _, _⟩ := row_shape hr1; clear hr1 hgz))
          go_meet
          exact ⟨m + 1, _, q3, ⟨hOz.out.1, hOz.out.2.weak (by omega)⟩, by omega, by omega, hcz, hgz0⟩
        by_cases z1 : z = 1
        · subst z1
          by_cases h0 : 0 < m
          · have t1 : decide ((0 : Int) < (m : Int)) = true := by simpa using h0
            have t2 : decide (0 < m) = true := by simpa using h0
            obtain ⟨_, _, he, _, _, hgo⟩ := row_shape HO2.out.1
            obtain ⟨g, hge, hg1, hgg2⟩ := hgo.resolve_left (by omega)
            simp only [Value.slice.injEq, true_and] at he
            obtain ⟨rfl, rfl⟩ := he
            subst hge
            clear hgo
            go_wp2_with (fail)
            refine (pickS (m : Int) hc2 (by omega)).mono ?_
            rintro e w5 ⟨x5, q5, rfl, hx5, _, hx5', hq5, hq5', hc5, hg5⟩
            have hx5'' := hx5' (by omega)
            obtain ⟨k, rfl⟩ := Int.eq_ofNat_of_zero_le hx5
            have hkm : k < m := by omega
            clear hx5'
            have hO5 := HO2.out.far hg5 (fun k hk => by simp at hk; omega)
            have hg05 := hg02.trans hg5
            have hb5 := hg05.size
            have hBg : B < g := by omega
            have hg52 : g < w5.heap.size := by have := hg5.size; omega
            obtain ⟨x0, x1, x2, u, s, d0, d1, d2, d3, wx0, wx1, wx2, hs, hsl⟩ := hO5.elem hkm
            obtain ⟨ua, uc, e4⟩ := introw_slice hs.ints
            obtain ⟨un, hun⟩ : ∃ m, m = s.length := ⟨_, rfl⟩
            rw [← hun] at e4 hsl
            subst e4
            have HO5 := hid hO5
            have HS := hid hs
            have HUN := hid hun
            have hk0 : (0 : Int) ≤ (k : Int) := Int.natCast_nonneg _
            have hkm2 : (k : Int) < m := by omega
            clear HO2 hc2 hg02 hg5 hO5 hs hun
            go_wp2_with (fail)
            refine (l1Own_any _ un s _ (by have := HS.out.ints; rw [← HUN.out] at this; exact this) (by omega)).mono ?_
            rintro e w6 ⟨v6, rfl, hs6, hb6⟩
            obtain ⟨a6, c6, e6⟩ := introw_slice hs6.ints
            rw [← HUN.out] at e6
            subst e6
            obtain ⟨i1, ji, jz0, jz1, jz2⟩ := info_parts info_IntK
            have HS6 := hid (show w6.ownsRow w5.heap.size 3 1 (.slice a6 un c6) un (s.map (Value.int .i64)) by have := hs6.1; rw [← HUN.out] at this; exact this)
            clear hs6 d0 d1 d2 d3
            go_wp2_with (at_builtin; go_loud (refine wpList_srcK rfl (.tmp 87) (.tmp 88) 32 rfl w5.heap.size 3 i1 _ 1 8 Try.underlying32 ji jz0 jz1 jz2 rfl (by omega) (by omega) (by omega) _ un (s.map (Value.int .i64)) rfl (row_ext HS6.out ((Ext.refl _).alloc _)) _ 1 ([3].map (Value.int .i64)) rfl (lit_oneK _ 3) (ints_oneK _) (by omega) (by simp only [World.size_alloc]; have := hb6.size; omega) ?_; intro v2 wz hr1 hgz; have hEz : Ext w5 wz := Ext.of_grownAt (hb6.alloc _) hgz (fun k hk => (HS6.out.lt k hk).1); have HOz := hid (HO5.out.ext hEz); have hcz := hc5.ext hEz; have hgz0 := hg05.trans (hEz.grown.but (some B)); obtain ⟨u0, cu0, _⟩ := row_cell HOz.out.1 (k * 4 + 3) (by omega); have fu0 := HOz.out.1.frozenAt (k * 4 + 3); obtain ⟨a2, c2, rfl, _, _, _⟩ := row_shape hr1; have HRz := hid hr1; clear hr1 hgz))
            go_meet
            have hSz : SigO wz w.heap.size (.slice a2 (un + 1) c2) (s ++ [3]) := by
              refine ⟨?_, fun x hx => ?_, ?_⟩
              · rw [List.length_append, List.map_append, ← HUN.out]
                exact row_mono HRz.out hb5
              · rcases List.mem_append.1 hx with hx | hx
                · exact HS.out.2.1 x hx
                · simp only [List.mem_singleton] at hx; subst hx; exact wf_i64 (by omega)
              · rw [List.length_append, ← HUN.out]; simp only [List.length_singleton]; omega
            refine ⟨m, xs.set (k * 4 + 3) (.slice a2 (un + 1) c2), q5, ⟨(HOz.out.1.stored (k * 4 + 3) _).1, ((HOz.out.2.weak (by omega)).set3 hkm hSz (by rw [List.length_append, ← HUN.out]; simp only [List.length_singleton]; omega)).spine HOz.out.1 (grow_cell wz ⟨g, k * 4 + 3, none⟩ _)⟩, by omega, by omega, hcz.set hBg _ _, hgz0.andThen (grow_cell wz ⟨g, k * 4 + 3, none⟩ _) (fun k hk => .inl (by simp at hk; omega))⟩
          · obtain rfl : m = 0 := by omega
            have t1 : decide ((0 : Int) < ((0 : Nat) : Int)) = false := by simp
            have t2 : decide (0 < 0) = false := by simp
            go_wp2_with (fail)
            go_meet
            exact ⟨0, xs, q2, ⟨HO2.out.1, HO2.out.2.weak (by omega)⟩, by omega, by omega, hc2, hg02⟩
        by_cases z2 : z = 2
        · subst z2
          go_wp2_with (fail)
          refine (oneS 3 hc2 (by omega)).mono ?_
          rintro e w3 ⟨o, q3, rfl, hq3, hq3', hc3, hg3⟩
          have HO3 := hid (HO2.out.far hg3 (fun k hk => by simp at hk; omega))
          have hg03 := hg02.trans hg3
          clear HO2 hc2 hg02 hg3
          cases o with
          | false =>
            go_wp2_with (fail)
            go_meet
            exact ⟨m, xs, q3, ⟨HO3.out.1, HO3.out.2.weak (by omega)⟩, by omega, by omega, hc3, hg03⟩
          | true =>
            go_wp2_with (fail)
            refine (pickS 2 hc3 (by omega)).mono ?_
            rintro e w4 ⟨x4, q4, rfl, hx4, _, hx4', hq4, hq4', hc4, hg4⟩
            have hx4'' := hx4' (by omega)
            obtain ⟨K, rfl⟩ := Int.eq_ofNat_of_zero_le hx4
            obtain ⟨N, hN⟩ : ∃ N, N = 40 + K := ⟨_, rfl⟩
            have hw4 : IntKind.i64.wrap (40 + (K : Int)) = (N : Int) := by rw [IntWalk.i64_in _ (by omega)]; omega
            have hN1 : N ≤ 41 := by omega
            have hN2 : 40 ≤ N := by omega
            clear hN
            have HO4 := hid (HO3.out.far hg4 (fun k hk => by simp at hk; omega))
            have hg04 := hg03.trans hg4
            clear HO3 hc3 hg03 hg4
            go_wp2_with (fail)
            clear hw4
            go_loopw [3] (fun s3 wr => ∃ (m' : Nat) (xs' : List Value), m' ≤ N ∧ PkO 12 wr w.heap.size s3 m' xs' ∧ CS wr B vc n zc q4 ∧ w.grownBy wr (some B))
              (fun s3 _ => N - lenOf s3)
            case atStart => exact ⟨m, xs, by omega, HO4.out, hc4, hg04⟩
            case round =>
              obtain ⟨m', xs', hm', hO', hcr, hgr⟩ := hrel
              clear HO4 hc4 hg04
              obtain ⟨a4, c4, rfl⟩ := hO'.slice
              have HO := hid hO'
              clear hO'
              by_cases hlt : m' < N
              · have t2 : decide ((m' : Int) < (N : Int)) = true := by simpa using hlt
                have t3 : decide (m' < N) = true := by simpa using hlt
                have hbr := hgr.size
                have HK1 := hid (show PkC 12 (wr.alloc (.cells #[.int .i64 5] 3)) w.heap.size 1 [.int .i64 (1 + (m' : Int)), .int .i64 0, .int .i64 1, .slice (some ⟨wr.heap.size, 0, none⟩) 1 1] from PkC.one (wf_i64 (by omega)) (wf_i64 (by omega)) (wf_i64 (by omega)) ((SigO.lit wr 5 (wf_i64 (by omega))).mono hbr) (by simp))
                go_wp2_with (at_builtin; go_loud (refine wpList_srcK rfl (.tmp 103) (.tmp 109) 29 rfl w.heap.size 38 i0 _ 4 48 Try.underlying29 hi hz0 hz1 hz2 rfl (by omega) (by omega) (by omega) _ m' xs' rfl (row_ext HO.out.1 (((Ext.refl wr).alloc _).alloc _)) _ 1 _ rfl (lit_pkAt _ _ _ _ _ _ _ (by simp)) HK1.out.cells (by omega) (by simp only [World.size_alloc]; omega) ?_; intro v2 wz hr1 hgz; have hOz := hid (PkO.grow (HO.out.ext (((Ext.refl wr).alloc _).alloc _)) (HK1.out.ext ((Ext.refl (wr.alloc (.cells #[.int .i64 5] 3))).alloc _)) hr1 hgz); have hcz : CS wz B vc n zc q4 := CS.far (hcr.ext (((Ext.refl _).alloc _).alloc _)) hgz (fun k hk => by have := (HO.out.1.lt k hk).1; omega); have hgz0 : w.grownBy wz (some B) := World.grownBy.andThen (World.grownBy.trans hgr ((((Ext.refl _).alloc _).alloc _ : Ext wr _).grown.but (some B))) hgz (fun k hk => .inl (HO.out.1.lt k hk).1); obtain ⟨a2, c2, rfl, _, _, _⟩ := row_shape hr1; clear hr1 hgz))
                go_roundw
                case rel => exact ⟨m' + 1, _, by omega, hOz.out, hcz, hgz0⟩
                case measure => simp [lenOf]; omega
              · obtain rfl : m' = N := by omega
                have t2 : decide ((m' : Int) < (m' : Int)) = false := by simp
                have t3 : decide (m' < m') = false := by simp
                clear hlt hm'
                go_wp2_with (fail)
                go_meet
                exact ⟨m', xs', q4, ⟨HO.out.1, HO.out.2.weak (by omega)⟩, by omega, by omega, hcr, hgr⟩
        go_wp2_with (fail)
        go_meet
        exact ⟨m, xs, q2, ⟨HO2.out.1, HO2.out.2.weak (by omega)⟩, by omega, by omega, hc2, hg02⟩
      case rest =>
        obtain ⟨m', xs', q', hO', hm', hq', hc', hg'⟩ := hcut
        clear HO2 hc2 hg02
        obtain ⟨a9, c9, rfl⟩ := hO'.slice
        have HO' := hid hO'
        clear hO'
        go_wp2_with (fail)
        go_ret
        exact ⟨_, m', xs', q', rfl, HO'.out, hm', hq', hc', hg'⟩
end Go.Proofs.Ytjmbhlhkjjinbaa
