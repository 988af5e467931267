/- What the reference draws: nets. Condition: the code's length. -/
import Derived.Test.YtjmbhlhkjjinbaaTypN
import Derived.Test.YtjmbhlhkjjinbaaNet
namespace Go.Proofs.Ytjmbhlhkjjinbaa
open Go.RowKit
set_option linter.unusedSimpArgs false
set_option linter.unusedVariables false

theorem row_gr {B base : Nat} {β : List (Nat × List Ty)} {w w' : World} {e : TypeId} {s m : Nat} {v : Value} {xs : List Value} (h : w.ownsRow base e s v m xs) (g : Gr B β w w') (hB : B < base) (hβ : ∀ p ∈ β, p.1 < base) : w'.ownsRow base e s v m xs := by
  refine ⟨h.1, ?_⟩
  rcases h.2 with h2 | ⟨k, cap, cur, rfl, h3, h4, h5⟩
  · exact .inl h2
  · exact .inr ⟨k, cap, cur, rfl, h3, by rw [g.block k (h.lt k rfl).2 (by omega) (fun p hp => by have := hβ p hp; omega)]; exact h4, h5⟩
/-- blocks of different element types differ -/
theorem own_ne3 {w : World} {e e' : TypeId} {b b' s s' n n' g : Nat} {v v' : Value} {xs xs' : List Value} (h : w.ownsRow b e s v n xs) (h' : w.ownsRow b' e' s' v' n' xs') (hne : e ≠ e') (hv : v.ownBlock = some g) : v'.ownBlock ≠ some g := by
  intro hv'
  rcases h.2 with ⟨rfl, _⟩ | ⟨g1, c1, cur1, rfl, _, hg1, _⟩
  · simp [Value.ownBlock] at hv
  · rcases h'.2 with ⟨rfl, _⟩ | ⟨g2, c2, cur2, rfl, _, hg2, _⟩
    · simp [Value.ownBlock] at hv'
    · simp only [Value.ownBlock, Option.some.injEq] at hv hv'
      subst hv
      subst hv'
      rw [hg1] at hg2
      simp only [Option.some.injEq, Obj.cells.injEq] at hg2
      exact hne hg2.2.1
/-- a net in a box: two slices, each a row of the call's own -/
structure NB (w : World) (base b : Nat) (vT : Value) (nT : Nat) (zT : List Int) (vL : Value) (nL : Nat) (zL : List Int) : Prop where
  c0 : w.cell? ⟨b, 0, none⟩ = some vT
  c1 : w.cell? ⟨b, 1, none⟩ = some vL
  f0 : w.frozen? ⟨b, 0, none⟩ = false
  f1 : w.frozen? ⟨b, 1, none⟩ = false
  lt : b < w.heap.size
  bb : b < base
  rT : w.ownsRow base 96 3 vT nT (zT.map (Value.int .i64))
  rL : w.ownsRow base 72 3 vL nL (zL.map (Value.int .i64))
  wT : ∀ z ∈ zT, (Lit.int .i64 z).wf = true
  wL : ∀ z ∈ zL, (Lit.int .i64 z).wf = true
def netβ (b : Nat) : List (Nat × List Ty) := [(b, [.usr 0, .usr 1])]
theorem row_setc {w : World} {base : Nat} {e : TypeId} {size : Nat} {v : Value} {n : Nat} {xs : List Value} (h : w.ownsRow base e size v n xs) {b j : Nat} {u : Value} (hb : ∀ k, v.ownBlock = some k → k ≠ b) : (w.setCell ⟨b, j, none⟩ u).ownsRow base e size v n xs := row_set h hb
section
variable {w w' : World} {base b nT nL : Nat} {vT vL : Value} {zT zL : List Int}
theorem NB.grown (h : NB w base b vT nT zT vL nL zL) {B : Nat} (g : w.grownBy w' (some B)) (hne : b ≠ B) (hB : B < base) : NB w' base b vT nT zT vL nL zL := by
  obtain ⟨h1, h2, h3, h4, h5, h6, h7, h8, h9, h10⟩ := h
  refine ⟨World.grownBy.cell g h1 (by simpa using hne), World.grownBy.cell g h2 (by simpa using hne), ?_, ?_, Nat.lt_of_lt_of_le h5 g.size, h6, h7.kept g ?_, h8.kept g ?_, h9, h10⟩
  · rw [World.grownBy.frozen_far g _ h5 (by simpa using hne)]; exact h3
  · rw [World.grownBy.frozen_far g _ h5 (by simpa using hne)]; exact h4
  · cases hb : vT.ownBlock with
    | none => exact .inl rfl
    | some k => right; intro e; have := (h7.lt k hb).1; simp only [Option.some.injEq] at e; omega
  · cases hb : vL.ownBlock with
    | none => exact .inl rfl
    | some k => right; intro e; have := (h8.lt k hb).1; simp only [Option.some.injEq] at e; omega
theorem NB.ext (h : NB w base b vT nT zT vL nL zL) (e : Ext w w') : NB w' base b vT nT zT vL nL zL := by
  obtain ⟨h1, h2, h3, h4, h5, h6, h7, h8, h9, h10⟩ := h
  have hc := Ext.cells e
  exact ⟨by rw [hc.1 _ _ h5]; exact h1, by rw [hc.1 _ _ h5]; exact h2, by rw [hc.2 _ _ h5]; exact h3, by rw [hc.2 _ _ h5]; exact h4, Nat.lt_of_lt_of_le h5 e.size, h6, row_ext h7 e, row_ext h8 e, h9, h10⟩
theorem NB.bx (h : NB w base b vT nT zT vL nL zL) {B n : Nat} {vc : Value} (hne : b ≠ B) (hv : n ≠ 0 → ∀ a l c, vc = .slice (some a) l c → a.block ≠ b) : Bx B (netβ b) (uNet vT vL B (netβ b)) vc n w := by
  intro p hp
  simp only [netβ, List.mem_singleton] at hp
  subst hp
  refine ⟨hne, h.lt, hv, fun o T ho => ?_⟩
  match o, ho with
  | 0, ho => cases ho; exact ⟨vT, (show uNet vT vL B (netβ b) 0 w vT by simp [uNet]), h.c0, h.f0⟩
  | 1, ho => cases ho; exact ⟨vL, (show uNet vT vL B (netβ b) 1 w vL by simp [uNet]), h.c1, h.f1⟩
  | o + 2, ho => simp at ho
theorem NB.reg (h : NB w base b vT nT zT vL nL zL) {B n : Nat} {vc : Value} (g : Gr B (netβ b) w w') (hb : Bx B (netβ b) (uNet vT vL B (netβ b)) vc n w') (hB : B < base) : NB w' base b vT nT zT vL nL zL := by
  obtain ⟨k1, k2, k3, k4⟩ := hb (b, [.usr 0, .usr 1]) (by simp [netβ])
  obtain ⟨x0, h0, c0, f0⟩ := k4 0 (.usr 0) rfl
  obtain ⟨x1, h1, c1, f1⟩ := k4 1 (.usr 1) rfl
  obtain rfl : x0 = vT := h0
  obtain rfl : x1 = vL := h1
  have hβ : ∀ p ∈ netβ b, p.1 < base := fun p hp => by
    simp only [netβ, List.mem_singleton] at hp
    subst hp
    exact h.bb
  exact ⟨c0, c1, f0, f1, k2, h.bb, row_gr h.rT g hB hβ, row_gr h.rL g hB hβ, h.wT, h.wL⟩
theorem NB.pushT (h : NB w base b vT nT zT vL nL zL) {v1 : Value} {x0 x1 x2 : Int} (hr : w'.ownsRow base 96 3 v1 (nT + 1) (zT.map (Value.int .i64) ++ [x0, x1, x2].map (Value.int .i64))) (g : w.grownBy w' vT.ownBlock) (w0 : (Lit.int .i64 x0).wf = true) (w1 : (Lit.int .i64 x1).wf = true) (w2 : (Lit.int .i64 x2).wf = true) :
    NB (w'.setCell ⟨b, 0, none⟩ v1) base b v1 (nT + 1) (zT ++ [x0, x1, x2]) vL nL zL := by
  obtain ⟨h1, h2, h3, h4, h5, h6, h7, h8, h9, h10⟩ := h
  have hfar : ∀ k, vT.ownBlock = some k → b ≠ k := fun k hk e => by have := (h7.lt k hk).1; omega
  have d0 : w'.cell? ⟨b, 0, none⟩ = some vT := World.grownBy.cell g h1 (fun e => hfar b e.symm rfl)
  have d1 : w'.cell? ⟨b, 1, none⟩ = some vL := World.grownBy.cell g h2 (fun e => hfar b e.symm rfl)
  have e0 : w'.frozen? ⟨b, 0, none⟩ = false := by rw [World.grownBy.frozen_far g _ h5 (fun e => hfar b e.symm rfl)]; exact h3
  have e1 : w'.frozen? ⟨b, 1, none⟩ = false := by rw [World.grownBy.frozen_far g _ h5 (fun e => hfar b e.symm rfl)]; exact h4
  have hL : w'.ownsRow base 72 3 vL nL (zL.map (Value.int .i64)) := h8.kept g (by
    cases hb : vL.ownBlock with
    | none => exact .inl rfl
    | some k => right; intro e; exact own_ne3 h8 h7 (by decide) hb e.symm)
  have hne : ∀ {e : TypeId} {s m : Nat} {v : Value} {xs : List Value}, w'.ownsRow base e s v m xs → ∀ k, v.ownBlock = some k → k ≠ b := fun hr k hk e => by have := (hr.lt k hk).1; omega
  refine ⟨World.cell?_setCell_same _ _ _ d0, ?_, ?_, ?_, by rw [World.size_setCell]; exact Nat.lt_of_lt_of_le h5 g.size, h6, ?_, ?_, fun z hz => ?_, h10⟩
  · rw [World.cell?_setCell_other _ _ _ _ (by simp)]; exact d1
  · rw [World.frozen?_setCell]; exact e0
  · rw [World.frozen?_setCell]; exact e1
  · rw [List.map_append]; exact row_setc hr (hne hr)
  · exact row_setc hL (hne hL)
  · rcases List.mem_append.1 hz with hz | hz
    · exact h9 z hz
    · simp only [List.mem_cons, List.not_mem_nil, or_false] at hz
      rcases hz with rfl | rfl | rfl <;> assumption
theorem NB.pushL (h : NB w base b vT nT zT vL nL zL) {v1 : Value} {x0 x1 x2 : Int} (hr : w'.ownsRow base 72 3 v1 (nL + 1) (zL.map (Value.int .i64) ++ [x0, x1, x2].map (Value.int .i64))) (g : w.grownBy w' vL.ownBlock) (w0 : (Lit.int .i64 x0).wf = true) (w1 : (Lit.int .i64 x1).wf = true) (w2 : (Lit.int .i64 x2).wf = true) :
    NB (w'.setCell ⟨b, 1, none⟩ v1) base b vT nT zT v1 (nL + 1) (zL ++ [x0, x1, x2]) := by
  obtain ⟨h1, h2, h3, h4, h5, h6, h7, h8, h9, h10⟩ := h
  have hfar : ∀ k, vL.ownBlock = some k → b ≠ k := fun k hk e => by have := (h8.lt k hk).1; omega
  have d0 : w'.cell? ⟨b, 0, none⟩ = some vT := World.grownBy.cell g h1 (fun e => hfar b e.symm rfl)
  have d1 : w'.cell? ⟨b, 1, none⟩ = some vL := World.grownBy.cell g h2 (fun e => hfar b e.symm rfl)
  have e0 : w'.frozen? ⟨b, 0, none⟩ = false := by rw [World.grownBy.frozen_far g _ h5 (fun e => hfar b e.symm rfl)]; exact h3
  have e1 : w'.frozen? ⟨b, 1, none⟩ = false := by rw [World.grownBy.frozen_far g _ h5 (fun e => hfar b e.symm rfl)]; exact h4
  have hT : w'.ownsRow base 96 3 vT nT (zT.map (Value.int .i64)) := h7.kept g (by
    cases hb : vT.ownBlock with
    | none => exact .inl rfl
    | some k => right; intro e; exact own_ne3 h7 h8 (by decide) hb e.symm)
  have hne : ∀ {e : TypeId} {s m : Nat} {v : Value} {xs : List Value}, w'.ownsRow base e s v m xs → ∀ k, v.ownBlock = some k → k ≠ b := fun hr k hk e => by have := (hr.lt k hk).1; omega
  refine ⟨?_, World.cell?_setCell_same _ _ _ d1, ?_, ?_, by rw [World.size_setCell]; exact Nat.lt_of_lt_of_le h5 g.size, h6, ?_, ?_, h9, fun z hz => ?_⟩
  · rw [World.cell?_setCell_other _ _ _ _ (by simp)]; exact d0
  · rw [World.frozen?_setCell]; exact e0
  · rw [World.frozen?_setCell]; exact e1
  · exact row_setc hT (hne hT)
  · rw [List.map_append]; exact row_setc hr (hne hr)
  · rcases List.mem_append.1 hz with hz | hz
    · exact h10 z hz
    · simp only [List.mem_cons, List.not_mem_nil, or_false] at hz
      rcases hz with rfl | rfl | rfl <;> assumption
end

theorem Gr.app {B : Nat} {β : List (Nat × List Ty)} {W0 w wz : World} {r : Option Nat} (h : Gr B β W0 w) (g : w.grownBy wz r) (hr : ∀ k, r = some k → W0.heap.size ≤ k) : Gr B β W0 wz :=
  ⟨g.os.trans h.os, g.tape.trans h.tape, g.output.trans h.output, Nat.le_trans h.size g.size, fun k hk h1 h2 => (g.block k (Nat.lt_of_lt_of_le hk h.size) (fun e => by have := hr k e.symm; omega)).trans (h.block k hk h1 h2)⟩
theorem Gr.box {B b : Nat} {W0 w : World} (h : Gr B (netβ b) W0 w) (o : Nat) (u : Value) : Gr B (netβ b) W0 (w.setCell ⟨b, o, none⟩ u) :=
  ⟨h.os, h.tape, h.output, by rw [World.size_setCell]; exact h.size, fun k hk h1 h2 => (heap_setCell_other w ⟨b, o, none⟩ k u (h2 (b, [.usr 0, .usr 1]) (by simp [netβ]))).trans (h.block k hk h1 h2)⟩
theorem Gr.weak {B b : Nat} {w w' : World} (h : Gr B (netβ b) w w') (hb : w.heap.size ≤ b) : w.grownBy w' (some B) :=
  ⟨h.os, h.tape, h.output, h.size, fun k hk h1 => h.block k hk (by simpa using h1) (fun p hp => by simp only [netβ, List.mem_singleton] at hp; subst hp; simp only []; omega)⟩

set_option maxRecDepth 100000 in
set_option maxHeartbeats 4000000 in
theorem netS {w : World} {B : Nat} {vc : Value} {n : Nat} {zc : List Int} {q : Nat} (h : CS w B vc n zc q) (hq : q ≤ 200000000) :
    Calls Try.prog 46 #[.pointer (some ⟨B, 0, none⟩)] w fun e w' => ∃ (vT vL : Value) (nT nL : Nat) (zT zL : List Int) (q' : Nat), e = .returned (.agg #[vT, vL]) ∧ w'.ownsRow w.heap.size 96 3 vT nT (zT.map (Value.int .i64)) ∧ w'.ownsRow w.heap.size 72 3 vL nL (zL.map (Value.int .i64)) ∧ (∀ z ∈ zT, (Lit.int .i64 z).wf = true) ∧ (∀ z ∈ zL, (Lit.int .i64 z).wf = true) ∧ (1 ≤ nT ∧ nT ≤ 16) ∧ nL ≤ 40 ∧ q' ≤ q + 100000000 ∧ CS w' B vc n zc q' ∧ w.grownBy w' (some B) := by
  obtain ⟨i0, hi, hz0, hz1, hz2⟩ := info_parts info_Tower
  obtain ⟨j0, hj, hy0, hy1, hy2⟩ := info_parts info_Link
  have hBs := h.size
  go_enter Try.func46, Try.ntmps46
  go_wp2_with (fail)
  have HV : Hid (n ≠ 0 → ∀ a l c, vc = .slice (some a) l c → a.block ≠ w.heap.size + 1) := hid (fun hn a l c e => by have := h.2.2.1 hn a l c e; omega)
  have e0 : Ext w ((w.alloc (.cells #[.slice none 0 0, .slice none 0 0] 27)).alloc (.cells #[.slice none 0 0, .slice none 0 0] 27)) := (by repeat (first | exact Ext.refl _ | assumption | refine Ext.alloc ?_ _ | refine Ext.drew ?_ | refine Ext.drewN ?_ _ | refine Ext.setCell ?_ (by first | exact Nat.le_refl _ | (simp; done) | (dsimp only; omega) | (simp only [World.size_alloc, World.size_setCell]; omega)) _ | refine Ext.trans ?_ (by assumption)))
  have hc0 := h.ext e0
  have hnb : NB ((w.alloc (.cells #[.slice none 0 0, .slice none 0 0] 27)).alloc (.cells #[.slice none 0 0, .slice none 0 0] 27)) (w.heap.size + 2) (w.heap.size + 1) (.slice none 0 0) 0 [] (.slice none 0 0) 0 [] := ⟨by simp, by simp, by simp, by simp, by simp, by omega, World.ownsRow_nil _ _ _ _, World.ownsRow_nil _ _ _ _, by simp, by simp⟩
  have hrc : ((w.alloc (.cells #[.slice none 0 0, .slice none 0 0] 27)).alloc (.cells #[.slice none 0 0, .slice none 0 0] 27)).cell? ⟨w.heap.size, 0, none⟩ = some (.slice none 0 0) ∧ ((w.alloc (.cells #[.slice none 0 0, .slice none 0 0] 27)).alloc (.cells #[.slice none 0 0, .slice none 0 0] 27)).cell? ⟨w.heap.size, 1, none⟩ = some (.slice none 0 0) ∧ ((w.alloc (.cells #[.slice none 0 0, .slice none 0 0] 27)).alloc (.cells #[.slice none 0 0, .slice none 0 0] 27)).frozen? ⟨w.heap.size, 0, none⟩ = false ∧ ((w.alloc (.cells #[.slice none 0 0, .slice none 0 0] 27)).alloc (.cells #[.slice none 0 0, .slice none 0 0] 27)).frozen? ⟨w.heap.size, 1, none⟩ = false := by simp
  have hsz : ((w.alloc (.cells #[.slice none 0 0, .slice none 0 0] 27)).alloc (.cells #[.slice none 0 0, .slice none 0 0] 27)).heap.size ≤ w.heap.size + 2 := by simp
  have hszb : w.heap.size + 2 ≤ ((w.alloc (.cells #[.slice none 0 0, .slice none 0 0] 27)).alloc (.cells #[.slice none 0 0, .slice none 0 0] 27)).heap.size := by simp
  obtain ⟨W0, hW0⟩ : ∃ W, W = ((w.alloc (.cells #[.slice none 0 0, .slice none 0 0] 27)).alloc (.cells #[.slice none 0 0, .slice none 0 0] 27)) := ⟨_, rfl⟩
  rw [← hW0] at e0 hc0 hnb hrc hsz hszb ⊢
  clear hW0
  obtain ⟨bs, hbs⟩ : ∃ b, b = w.heap.size + 2 := ⟨_, rfl⟩
  obtain ⟨b3, hb3⟩ : ∃ b, b = w.heap.size + 1 := ⟨_, rfl⟩
  obtain ⟨b2, hb2⟩ : ∃ b, b = w.heap.size := ⟨_, rfl⟩
  rw [← hb3] at HV
  rw [← hbs, ← hb3] at hnb
  rw [← hbs] at hsz hszb
  rw [← hb2] at hrc
  rw [← hb3, ← hb2]
  have k1 : B < b2 := by omega
  have k2 : b2 < b3 := by omega
  have k3 : b3 < bs := by omega
  have k4 : w.heap.size ≤ b2 := by omega
  have k5 : b2 < W0.heap.size := by have := hnb.lt; omega
  have HRC := hid hrc
  have HE0 := hid e0
  clear hbs hb3 hb2 hrc e0 h
  refine (pickS 6 hc0 (by omega)).mono ?_
  rintro e w1 ⟨x1, q1, rfl, hx1, _, hx1', hq1, hq1', hc1, hg1⟩
  have hx1'' := hx1' (by omega)
  have N1 := hnb.grown hg1 (by omega) (by omega)
  have G1 : Gr B (netβ b3) W0 w1 := Gr.of_grown hg1
  clear hnb hc0 hg1 hx1'
  go_wp2_with (fail)
  refine (oneS 24 hc1 (by omega)).mono ?_
  rintro e w2 ⟨o2, q2, rfl, hq2, hq2', hc2, hg2⟩
  have N2 := N1.grown hg2 (by omega) (by omega)
  have G2 : Gr B (netβ b3) W0 w2 := G1.trans (Gr.of_grown hg2)
  clear N1 G1 hc1 hg2
  obtain ⟨x1, rfl⟩ := Int.eq_ofNat_of_zero_le hx1
  have ew : IntKind.i64.wrap (1 + (x1 : Int)) = ((1 + x1 : Nat) : Int) := by rw [IntWalk.i64_in _ (by omega)]; omega
  go_upto_if 13 with (fail)
  go_cut [4] (fun s4 wx => ∃ (N : Nat), s4 = .int .i64 (N : Int) ∧ 1 ≤ N ∧ N ≤ 16 ∧ NB wx bs b3 (.slice none 0 0) 0 [] (.slice none 0 0) 0 [] ∧ Gr B (netβ b3) W0 wx ∧ CS wx B vc n zc q2)
  case first =>
    cases o2 with
    | false =>
      go_wp2_with (fail)
      go_meet
      exact ⟨1 + x1, by first | rfl | (simp [ew]), by omega, by omega, N2, G2, hc2⟩
    | true =>
      go_wp2_with (fail)
      go_meet
      exact ⟨16, by first | rfl | trivial, by omega, by omega, N2, G2, hc2⟩
  case rest =>
  clear N2 G2 hc2 ew
  obtain ⟨N, rfl, hN1, hN16, hnb, hg3, hc3⟩ := hcut
  go_wp2_with (fail)
  go_loopg [] N (fun gk wr => ∃ (m : Nat) (vT : Value) (zT : List Int) (qr : Nat), m + gk = N ∧ NB wr bs b3 vT m zT (.slice none 0 0) 0 [] ∧ qr ≤ q2 + m * 1700000 ∧ CS wr B vc n zc qr ∧ Gr B (netβ b3) W0 wr)
  case atStart => exact ⟨0, _, [], q2, by omega, hnb, by omega, hc3, hg3⟩
  case round =>
    clear hnb hc3 hg3
    obtain ⟨m, vT, zT, qr, hm, hN, hqr, hcr, hgr⟩ := hrel
    have hsh := row_shape hN.rT
    obtain ⟨aT, cT, rfl, _, _, _⟩ := hsh
    have d0 := hN.c0
    have d1 := hN.c1
    by_cases hlt : m < N
    · have tl : decide ((m : Int) < (N : Int)) = true := by simpa using hlt
      have hU := uNet_ok (.slice aT m cT) (.slice none 0 0) B (netβ b3)
      have hLIT := @uNet_lit (.slice aT m cT) (.slice none 0 0) B (netβ b3)
      have HLIT := hid hLIT
      have HU := hid hU
      clear hLIT hU
      go_wp2_with (fail)
      have hU := HU.out
      have hLIT := HLIT.out
      refine wp_region_typed_tail 17 (by kernel_rfl) (CI B (netβ b3) (uNet (.slice aT m cT) (.slice none 0 0) B (netβ b3)) vc n zc) (vT B (netβ b3) (uNet (.slice aT m cT) (.slice none 0 0) B (netβ b3))) (Gr B (netβ b3)) 100000 800000000000 (fun _ _ _ h k => Gr.trans h k) (fun _ _ _ _ g h => vT_mono hU g h) (fun _ _ h => CI.ext hU h ((Ext.refl _).drew)) (fun _ => Gr.of_ext ((Ext.refl _).drew)) [([(3, (.box 0 0))], (.box 0 0)), ([(19, (.box 0 0))], (.usr 0)), ([(0, .cur)], .cur), ([(0, .cur)], .cur), ([(22, .cur)], .int), ([(23, .int)], .list), ([(21, .cur), (24, .list)], .int), ([(0, .cur)], .cur), ([(0, .cur)], .cur), ([(27, .cur)], .int), ([(28, .int)], .list), ([(26, .cur), (29, .list)], .int), ([(0, .cur)], .cur), ([], .list), ([(31, .cur), (32, .list)], .int), ([(25, .int), (30, .int), (33, .int)], (.agg 3)), ([(34, (.agg 3))], (.usr 2))] [(0, .cur), (3, (.box 0 0))] (by kernel_rfl) (by kernel_rfl) (AllOk.cons (ok_faddr (fun b w => by simp [go_sem]) rfl) (AllOk.cons (ok_loadV (i := 0) (o := 0) (k := 0) (et := 96) (by kernel_rfl) rfl ⟨_, rfl, rfl⟩) (AllOk.cons (ok_move rfl) (AllOk.cons (ok_move rfl) (AllOk.cons (ok_call (enters Try.func23 (by kernel_rfl) (by kernel_rfl)) (pickT vc n zc) rfl rfl hU) (AllOk.cons (ok_list (by kernel_rfl) ⟨by decide, by decide⟩ rfl hU) (AllOk.cons (ok_call (enters Try.func34 (by kernel_rfl) (by kernel_rfl)) (amongT vc n zc) rfl rfl hU) (AllOk.cons (ok_move rfl) (AllOk.cons (ok_move rfl) (AllOk.cons (ok_call (enters Try.func23 (by kernel_rfl) (by kernel_rfl)) (pickT vc n zc) rfl rfl hU) (AllOk.cons (ok_list (by kernel_rfl) ⟨by decide, by decide⟩ rfl hU) (AllOk.cons (ok_call (enters Try.func34 (by kernel_rfl) (by kernel_rfl)) (amongT vc n zc) rfl rfl hU) (AllOk.cons (ok_move rfl) (AllOk.cons (ok_list (by kernel_rfl) ⟨by decide, by decide⟩ rfl hU) (AllOk.cons (ok_call (enters Try.func34 (by kernel_rfl) (by kernel_rfl)) (amongT vc n zc) rfl rfl hU) (AllOk.cons (ok_build3 (fun a b c w => by simp [go_sem]) rfl rfl rfl) (AllOk.cons (ok_lit3 (i2 := 2) (e := 96) (by kernel_rfl) (by kernel_rfl) rfl hLIT hU) (trivial)))))))))))))))))) (qr) (by simp only [Nat.reduceMul]; omega) ⟨hcr, hN.bx (by omega) HV.out⟩ (GCons (rfl) (GCons (⟨_, rfl, rfl⟩) GNil)) [19, 20, 21, 22, 23, 24, 25, 26, 27, 28, 29, 30, 31, 32, 33, 34, 35] (by kernel_rfl) ?_
      intro u w' q' hq' hI' hG hu
      simp only [Nat.reduceMul] at hq'
      have e20 : u 20 = .slice aT m cT := by have h9 := hu 20 (.usr 0) (by kernel_rfl); change uNet _ _ _ _ 0 _ _ at h9; simpa [uNet] using h9
      obtain ⟨x0, x1', x2, y0, y1, y2, hlit, _⟩ : ∃ x0 x1 x2 : Int, (Lit.int .i64 x0).wf = true ∧ (Lit.int .i64 x1).wf = true ∧ (Lit.int .i64 x2).wf = true ∧ IntRow .i64 3 w' (u 35) 1 [x0, x1, x2] ∧ farV B (netβ b3) (u 35) := by have h9 := hu 35 (.usr 2) (by kernel_rfl); change uNet _ _ _ _ 2 _ _ at h9; unfold uNet at h9; rw [if_neg (by omega), if_neg (by omega)] at h9; exact h9
      have N6 := hN.reg hG hI'.2 (by omega)
      have hc6 := hI'.1
      have hg6 := hgr.trans hG
      have hsz6 := hg6.size
      have HFAR : Hid (∀ k, (Value.slice aT m cT).ownBlock = some k → bs ≤ k) := hid (fun k hk => (N6.rT.lt k hk).1)
      have HY := hid (And.intro y0 (And.intro y1 y2))
      clear hu hI' hG hN hcr hgr hU hLIT HU HLIT d0 d1 y0 y1 y2
      simp only [putsAt, List.foldl_cons, List.foldl_nil, List.setIfInBounds_toArray, List.set_cons_zero, List.set_cons_succ, List.drop_succ_cons, List.drop_zero]
      rw [e20]
      clear e20
      obtain ⟨v35, hv35⟩ : ∃ v, v = u 35 := ⟨_, rfl⟩
      rw [← hv35] at hlit ⊢
      clear hv35
      obtain ⟨a35, c35, rfl⟩ := introw_slice hlit
      have HLIT := hid hlit
      clear hlit
      go_wp2_with (at_builtin; go_loud (refine wpList_src3 rfl (.tmp 20) (.tmp 35) 24 rfl bs 96 i0 _ Try.underlying24 hi hz0 hz1 hz2 rfl (.slice aT m cT) m (zT.map (Value.int .i64)) rfl N6.rT _ 1 [x0, x1', x2] rfl HLIT.out (by omega) (by omega) ?_; intro v1 wz hr1 hgz; obtain ⟨a1, c1', rfl, _, _, _⟩ := row_shape hr1; have hne3 : ∀ k, (Value.slice aT m cT).ownBlock = some k → b3 ≠ k := fun k hk e => (by have := HFAR.out k hk; omega); have dz0 := World.grownBy.cell hgz N6.c0 (fun e => hne3 b3 e.symm rfl); have fz0 : wz.frozen? ⟨b3, 0, none⟩ = false := (World.grownBy.frozen_far hgz _ N6.lt (fun e => hne3 b3 e.symm rfl)).trans N6.f0))
      go_roundg (N - (m + 1))
      case measure => omega
      case rel =>
        refine ⟨m + 1, _, zT ++ [x0, x1', x2], q', by omega, N6.pushT hr1 hgz HY.out.1 HY.out.2.1 HY.out.2.2, by omega, (CS.far hc6 hgz (fun k hk => by have := HFAR.out k hk; omega)).set (by omega) 0 _, (hg6.app hgz (fun k hk => by have := HFAR.out k hk; omega)).box 0 _⟩
    · obtain rfl : m = N := by omega
      have tl : decide ((m : Int) < (m : Int)) = false := by simp
      go_wp2_with (fail)
      refine (amongL [2, 2, 3] hcr (by omega) rfl (by simp) (by simp) rfl (by intro z hz; simp at hz; omega)).mono ?_
      rintro e w5 ⟨mn, q5, rfl, hmn, hq5, hq5', hc5, hg5⟩
      have N5 := hN.grown hg5 (by omega) (by omega)
      have G5 : Gr B (netβ b3) W0 w5 := hgr.trans (Gr.of_grown hg5)
      have hq5b : q5 ≤ q + 30000000 := by omega
      clear hN hgr hcr hg5 d0 d1 hmn tl
      go_wp2_with (fail)
      go_loopg [6] m (fun gk sa wr => ∃ (a : Nat) (vL : Value) (nL : Nat) (zL : List Int) (qr : Nat), a + gk = m ∧ sa = .int .i64 (a : Int) ∧ NB wr bs b3 (.slice aT m cT) m zT vL nL zL ∧ nL ≤ 40 ∧ qr ≤ q + 30000000 + a * 1000 + nL * 1600000 ∧ CS wr B vc n zc qr ∧ Gr B (netβ b3) W0 wr)
      case atStart => exact ⟨0, _, 0, [], q5, by omega, rfl, N5, by omega, by omega, hc5, G5⟩
      case round =>
        clear N5 hc5 G5
        obtain ⟨a, vL, nL, zL, qa, ha, rfl, hN, hnL, hqa, hca, hga⟩ := hrel
        obtain ⟨wo, hwo⟩ : ∃ wo : World, wo = wr := ⟨_, rfl⟩
        subst hwo
        obtain ⟨ga, hgae⟩ : ∃ g : Nat, g = gk := ⟨_, rfl⟩
        subst hgae
        by_cases hlt : a < m
        · have tl : decide ((a : Int) < (m : Int)) = true := by simpa using hlt
          have ea : IntKind.i64.wrap ((a : Int) + 1) = (a : Int) + 1 := IntWalk.i64_in _ (by omega)
          go_wp2_with (fail)
          go_loopg [7] (m - (a + 1)) (fun gk sb wr => ∃ (b : Nat) (vL : Value) (nL : Nat) (zL : List Int) (qr : Nat), a + 1 ≤ b ∧ b + gk = m ∧ sb = .int .i64 (b : Int) ∧ NB wr bs b3 (.slice aT m cT) m zT vL nL zL ∧ nL ≤ 40 ∧ qr ≤ q + 30000000 + a * 1000 + b * 20 + nL * 1600000 ∧ CS wr B vc n zc qr ∧ Gr B (netβ b3) W0 wr)
          case atStart => exact ⟨a + 1, vL, nL, zL, qa, by omega, by omega, by first | rfl | go_num, hN, hnL, by omega, hca, hga⟩
          case round =>
            clear hN hnL hqa hca hga
            obtain ⟨b, vL, nL, zL, qr, hb1, hb2, rfl, hN, hnL, hqr, hcr, hgr⟩ := hrel
            obtain ⟨aL, cL, rfl, _, _, _⟩ := row_shape hN.rL
            have d0 := hN.c0
            have d1 := hN.c1
            by_cases hlb : b < m ∧ nL < 40
            · obtain ⟨hlb, hl40⟩ := hlb
              have t1 : decide ((b : Int) < (m : Int)) = true := by simpa using hlb
              have t2 : decide ((nL : Int) < 40) = true := by simp; omega
              go_wp2_with (fail)
              refine (oneS mn hcr (by omega)).mono ?_
              rintro e w7 ⟨o7, q7, rfl, hq7, hq7', hc7, hg7⟩
              have N7 := hN.grown hg7 (by omega) (by omega)
              have G7 : Gr B (netβ b3) W0 w7 := hgr.trans (Gr.of_grown hg7)
              clear hN hgr hcr hg7 d0 d1
              have d0 := N7.c0
              have d1 := N7.c1
              cases o7 with
              | true =>
                have hU := uNet_ok (.slice aT m cT) (.slice aL nL cL) B (netβ b3)
                have hLIT := @uNet_lit (.slice aT m cT) (.slice aL nL cL) B (netβ b3)
                have HLIT := hid hLIT
                have HU := hid hU
                clear hLIT hU
                go_wp2_with (fail)
                have hU := HU.out
                have hLIT := HLIT.out
                have hw6 : (Lit.int .i64 (a : Int)).wf = true := wf_i64 (by omega)
                have hw7 : (Lit.int .i64 (b : Int)).wf = true := wf_i64 (by omega)
                refine wp_region_typed_tail 12 (by kernel_rfl) (CI B (netβ b3) (uNet (.slice aT m cT) (.slice aL nL cL) B (netβ b3)) vc n zc) (vT B (netβ b3) (uNet (.slice aT m cT) (.slice aL nL cL) B (netβ b3))) (Gr B (netβ b3)) 100000 800000000000 (fun _ _ _ h k => Gr.trans h k) (fun _ _ _ _ g h => vT_mono hU g h) (fun _ _ h => CI.ext hU h ((Ext.refl _).drew)) (fun _ => Gr.of_ext ((Ext.refl _).drew)) [([(3, (.box 0 0))], (.box 0 1)), ([(73, (.box 0 1))], (.usr 1)), ([(6, .int)], .int), ([(7, .int)], .int), ([(0, .cur)], .cur), ([(0, .cur)], .cur), ([(78, .cur)], .int), ([(79, .int)], .int), ([(80, .int)], .list), ([(77, .cur), (81, .list)], .int), ([(75, .int), (76, .int), (82, .int)], (.agg 3)), ([(83, (.agg 3))], (.usr 2))] [(0, .cur), (3, (.box 0 0)), (6, .int), (7, .int)] (by kernel_rfl) (by kernel_rfl) (AllOk.cons (ok_faddr (fun b w => by simp [go_sem]) rfl) (AllOk.cons (ok_loadV (i := 0) (o := 1) (k := 1) (et := 72) (by kernel_rfl) rfl ⟨_, rfl, rfl⟩) (AllOk.cons (ok_move rfl) (AllOk.cons (ok_move rfl) (AllOk.cons (ok_move rfl) (AllOk.cons (ok_move rfl) (AllOk.cons (ok_call (enters Try.func23 (by kernel_rfl) (by kernel_rfl)) (pickT vc n zc) rfl rfl hU) (AllOk.cons (ok_arith (.inl rfl) rfl rfl) (AllOk.cons (ok_list (by kernel_rfl) ⟨by decide, by decide⟩ rfl hU) (AllOk.cons (ok_call (enters Try.func34 (by kernel_rfl) (by kernel_rfl)) (amongT vc n zc) rfl rfl hU) (AllOk.cons (ok_build3 (fun a b c w => by simp [go_sem]) rfl rfl rfl) (AllOk.cons (ok_lit3 (i2 := 2) (e := 72) (by kernel_rfl) (by kernel_rfl) rfl hLIT hU) (trivial))))))))))))) (q7) (by simp only [Nat.reduceMul]; omega) ⟨hc7, N7.bx (by omega) HV.out⟩ (GCons (rfl) (GCons (⟨_, rfl, rfl⟩) (GCons ((intV_int hw6)) (GCons ((intV_int hw7)) GNil)))) [73, 74, 75, 76, 77, 78, 79, 80, 81, 82, 83, 84] (by kernel_rfl) ?_
                intro u w' q' hq' hI' hG hu
                simp only [Nat.reduceMul] at hq'
                have e74 : u 74 = .slice aL nL cL := by have h9 := hu 74 (.usr 1) (by kernel_rfl); change uNet _ _ _ _ 1 _ _ at h9; simpa [uNet] using h9
                obtain ⟨x0, x1', x2, y0, y1, y2, hlit, _⟩ : ∃ x0 x1 x2 : Int, (Lit.int .i64 x0).wf = true ∧ (Lit.int .i64 x1).wf = true ∧ (Lit.int .i64 x2).wf = true ∧ IntRow .i64 3 w' (u 84) 1 [x0, x1, x2] ∧ farV B (netβ b3) (u 84) := by have h9 := hu 84 (.usr 2) (by kernel_rfl); change uNet _ _ _ _ 2 _ _ at h9; unfold uNet at h9; rw [if_neg (by omega), if_neg (by omega)] at h9; exact h9
                have N6 := N7.reg hG hI'.2 (by omega)
                have hc6 := hI'.1
                have hg6 := G7.trans hG
                have hsz6 := hg6.size
                have HFAR : Hid (∀ k, (Value.slice aL nL cL).ownBlock = some k → bs ≤ k) := hid (fun k hk => (N6.rL.lt k hk).1)
                have HY := hid (And.intro y0 (And.intro y1 y2))
                clear hu hI' hG N7 hc7 G7 hU hLIT HU HLIT d0 d1 y0 y1 y2
                simp only [putsAt, List.foldl_cons, List.foldl_nil, List.setIfInBounds_toArray, List.set_cons_zero, List.set_cons_succ, List.drop_succ_cons, List.drop_zero]
                rw [e74]
                clear e74
                obtain ⟨v84, hv84⟩ : ∃ v, v = u 84 := ⟨_, rfl⟩
                rw [← hv84] at hlit ⊢
                clear hv84
                obtain ⟨a84, c84, rfl⟩ := introw_slice hlit
                have HLIT := hid hlit
                clear hlit
                go_wp2_with (at_builtin; go_loud (refine wpList_src3 rfl (.tmp 74) (.tmp 84) 25 rfl bs 72 j0 _ Try.underlying25 hj hy0 hy1 hy2 rfl (.slice aL nL cL) nL (zL.map (Value.int .i64)) rfl N6.rL _ 1 [x0, x1', x2] rfl HLIT.out (by omega) (by omega) ?_; intro v1 wz hr1 hgz; obtain ⟨a1, c1', rfl, _, _, _⟩ := row_shape hr1; have hne3 : ∀ k, (Value.slice aL nL cL).ownBlock = some k → b3 ≠ k := fun k hk e => (by have := HFAR.out k hk; omega); have dz1 := World.grownBy.cell hgz N6.c1 (fun e => hne3 b3 e.symm rfl); have fz1 : wz.frozen? ⟨b3, 1, none⟩ = false := (World.grownBy.frozen_far hgz _ N6.lt (fun e => hne3 b3 e.symm rfl)).trans N6.f1))
                go_roundg (m - (b + 1))
                case measure => omega
                case rel =>
                  refine ⟨b + 1, _, nL + 1, zL ++ [x0, x1', x2], q', by omega, by omega, by go_num, N6.pushL hr1 hgz HY.out.1 HY.out.2.1 HY.out.2.2, by omega, by omega, (CS.far hc6 hgz (fun k hk => by have := HFAR.out k hk; omega)).set (by omega) 1 _, (hg6.app hgz (fun k hk => by have := HFAR.out k hk; omega)).box 1 _⟩
              | false =>
                by_cases hba : b = a + 1
                · have t3 : decide ((b : Int) = (a : Int) + 1) = true := by simp; omega
                  have t4 : ((b : Int) == (a : Int) + 1) = true := by simp; omega
                  clear hba
                  go_wp2_with (fail)
                  refine (oneS 8 hc7 (by omega)).mono ?_
                  rintro e w8 ⟨o8, q8, rfl, hq8, hq8', hc8, hg8⟩
                  have N8 := N7.grown hg8 (by omega) (by omega)
                  have G8 : Gr B (netβ b3) W0 w8 := G7.trans (Gr.of_grown hg8)
                  clear N7 G7 hc7 hg8 d0 d1
                  have d0 := N8.c0
                  have d1 := N8.c1
                  cases o8 with
                  | false =>
                    have hU := uNet_ok (.slice aT m cT) (.slice aL nL cL) B (netβ b3)
                    have hLIT := @uNet_lit (.slice aT m cT) (.slice aL nL cL) B (netβ b3)
                    have HLIT := hid hLIT
                    have HU := hid hU
                    clear hLIT hU
                    go_wp2_with (fail)
                    have hU := HU.out
                    have hLIT := HLIT.out
                    have hw6 : (Lit.int .i64 (a : Int)).wf = true := wf_i64 (by omega)
                    have hw7 : (Lit.int .i64 (b : Int)).wf = true := wf_i64 (by omega)
                    refine wp_region_typed_tail 12 (by kernel_rfl) (CI B (netβ b3) (uNet (.slice aT m cT) (.slice aL nL cL) B (netβ b3)) vc n zc) (vT B (netβ b3) (uNet (.slice aT m cT) (.slice aL nL cL) B (netβ b3))) (Gr B (netβ b3)) 100000 800000000000 (fun _ _ _ h k => Gr.trans h k) (fun _ _ _ _ g h => vT_mono hU g h) (fun _ _ h => CI.ext hU h ((Ext.refl _).drew)) (fun _ => Gr.of_ext ((Ext.refl _).drew)) [([(3, (.box 0 0))], (.box 0 1)), ([(73, (.box 0 1))], (.usr 1)), ([(6, .int)], .int), ([(7, .int)], .int), ([(0, .cur)], .cur), ([(0, .cur)], .cur), ([(78, .cur)], .int), ([(79, .int)], .int), ([(80, .int)], .list), ([(77, .cur), (81, .list)], .int), ([(75, .int), (76, .int), (82, .int)], (.agg 3)), ([(83, (.agg 3))], (.usr 2))] [(0, .cur), (3, (.box 0 0)), (6, .int), (7, .int)] (by kernel_rfl) (by kernel_rfl) (AllOk.cons (ok_faddr (fun b w => by simp [go_sem]) rfl) (AllOk.cons (ok_loadV (i := 0) (o := 1) (k := 1) (et := 72) (by kernel_rfl) rfl ⟨_, rfl, rfl⟩) (AllOk.cons (ok_move rfl) (AllOk.cons (ok_move rfl) (AllOk.cons (ok_move rfl) (AllOk.cons (ok_move rfl) (AllOk.cons (ok_call (enters Try.func23 (by kernel_rfl) (by kernel_rfl)) (pickT vc n zc) rfl rfl hU) (AllOk.cons (ok_arith (.inl rfl) rfl rfl) (AllOk.cons (ok_list (by kernel_rfl) ⟨by decide, by decide⟩ rfl hU) (AllOk.cons (ok_call (enters Try.func34 (by kernel_rfl) (by kernel_rfl)) (amongT vc n zc) rfl rfl hU) (AllOk.cons (ok_build3 (fun a b c w => by simp [go_sem]) rfl rfl rfl) (AllOk.cons (ok_lit3 (i2 := 2) (e := 72) (by kernel_rfl) (by kernel_rfl) rfl hLIT hU) (trivial))))))))))))) (q8) (by simp only [Nat.reduceMul]; omega) ⟨hc8, N8.bx (by omega) HV.out⟩ (GCons (rfl) (GCons (⟨_, rfl, rfl⟩) (GCons ((intV_int hw6)) (GCons ((intV_int hw7)) GNil)))) [73, 74, 75, 76, 77, 78, 79, 80, 81, 82, 83, 84] (by kernel_rfl) ?_
                    intro u w' q' hq' hI' hG hu
                    simp only [Nat.reduceMul] at hq'
                    have e74 : u 74 = .slice aL nL cL := by have h9 := hu 74 (.usr 1) (by kernel_rfl); change uNet _ _ _ _ 1 _ _ at h9; simpa [uNet] using h9
                    obtain ⟨x0, x1', x2, y0, y1, y2, hlit, _⟩ : ∃ x0 x1 x2 : Int, (Lit.int .i64 x0).wf = true ∧ (Lit.int .i64 x1).wf = true ∧ (Lit.int .i64 x2).wf = true ∧ IntRow .i64 3 w' (u 84) 1 [x0, x1, x2] ∧ farV B (netβ b3) (u 84) := by have h9 := hu 84 (.usr 2) (by kernel_rfl); change uNet _ _ _ _ 2 _ _ at h9; unfold uNet at h9; rw [if_neg (by omega), if_neg (by omega)] at h9; exact h9
                    have N6 := N8.reg hG hI'.2 (by omega)
                    have hc6 := hI'.1
                    have hg6 := G8.trans hG
                    have hsz6 := hg6.size
                    have HFAR : Hid (∀ k, (Value.slice aL nL cL).ownBlock = some k → bs ≤ k) := hid (fun k hk => (N6.rL.lt k hk).1)
                    have HY := hid (And.intro y0 (And.intro y1 y2))
                    clear hu hI' hG N8 hc8 G8 hU hLIT HU HLIT d0 d1 y0 y1 y2
                    simp only [putsAt, List.foldl_cons, List.foldl_nil, List.setIfInBounds_toArray, List.set_cons_zero, List.set_cons_succ, List.drop_succ_cons, List.drop_zero]
                    rw [e74]
                    clear e74
                    obtain ⟨v84, hv84⟩ : ∃ v, v = u 84 := ⟨_, rfl⟩
                    rw [← hv84] at hlit ⊢
                    clear hv84
                    obtain ⟨a84, c84, rfl⟩ := introw_slice hlit
                    have HLIT := hid hlit
                    clear hlit
                    go_wp2_with (at_builtin; go_loud (refine wpList_src3 rfl (.tmp 74) (.tmp 84) 25 rfl bs 72 j0 _ Try.underlying25 hj hy0 hy1 hy2 rfl (.slice aL nL cL) nL (zL.map (Value.int .i64)) rfl N6.rL _ 1 [x0, x1', x2] rfl HLIT.out (by omega) (by omega) ?_; intro v1 wz hr1 hgz; obtain ⟨a1, c1', rfl, _, _, _⟩ := row_shape hr1; have hne3 : ∀ k, (Value.slice aL nL cL).ownBlock = some k → b3 ≠ k := fun k hk e => (by have := HFAR.out k hk; omega); have dz1 := World.grownBy.cell hgz N6.c1 (fun e => hne3 b3 e.symm rfl); have fz1 : wz.frozen? ⟨b3, 1, none⟩ = false := (World.grownBy.frozen_far hgz _ N6.lt (fun e => hne3 b3 e.symm rfl)).trans N6.f1))
                    go_roundg (m - (b + 1))
                    case measure => omega
                    case rel =>
                      refine ⟨b + 1, _, nL + 1, zL ++ [x0, x1', x2], q', by omega, by omega, by go_num, N6.pushL hr1 hgz HY.out.1 HY.out.2.1 HY.out.2.2, by omega, by omega, (CS.far hc6 hgz (fun k hk => by have := HFAR.out k hk; omega)).set (by omega) 1 _, (hg6.app hgz (fun k hk => by have := HFAR.out k hk; omega)).box 1 _⟩
                  | true =>
                    go_wp2_with (fail)
                    go_roundg (m - (b + 1))
                    case measure => omega
                    case rel => exact ⟨b + 1, _, nL, zL, q8, by omega, by omega, by go_num, N8, hnL, by omega, hc8, G8⟩
                · have t3 : decide ((b : Int) = (a : Int) + 1) = false := by simp; omega
                  have t4 : ((b : Int) == (a : Int) + 1) = false := by simp; omega
                  go_wp2_with (fail)
                  go_roundg (m - (b + 1))
                  case measure => omega
                  case rel => exact ⟨b + 1, _, nL, zL, q7, by omega, by omega, by go_num, N7, hnL, by omega, hc7, G7⟩
            · have hout : (b < m) = false ∨ (nL < 40) = false := by
                by_cases c : b < m
                · exact .inr (by simp; omega)
                · exact .inl (by simp; omega)
              by_cases c : b < m
              · have t1 : decide ((b : Int) < (m : Int)) = true := by simpa using c
                have t2 : decide ((nL : Int) < 40) = false := by simp; omega
                clear hout
                go_wp2_with (fail)
                go_roundg (m - (a + 1))
                case measure => omega
                case rel => exact ⟨a + 1, _, nL, zL, qr, by omega, by go_num, hN, hnL, by omega, hcr, hgr⟩
              · have t1 : decide ((b : Int) < (m : Int)) = false := by simpa using c
                clear hout
                go_wp2_with (fail)
                go_roundg (m - (a + 1))
                case measure => omega
                case rel => exact ⟨a + 1, _, nL, zL, qr, by omega, by go_num, hN, hnL, by omega, hcr, hgr⟩
        · obtain rfl : a = m := by omega
          have tl : decide ((a : Int) < (a : Int)) = false := by simp
          obtain ⟨aL, cL, rfl, _, _, _⟩ := row_shape hN.rL
          have d0 := hN.c0
          have d1 := hN.c1
          obtain ⟨r0, r1, r2, r3⟩ := HRC.out
          have hblk := hga.block b2 k5 (by omega) (fun p hp => by simp only [netβ, List.mem_singleton] at hp; subst hp; simp only []; omega)
          have s0 : wo.cell? ⟨b2, 0, none⟩ = some (.slice none 0 0) := (World.cell?_of_block hblk).trans r0
          have s1 : wo.cell? ⟨b2, 1, none⟩ = some (.slice none 0 0) := (World.cell?_of_block hblk).trans r1
          have s2 : wo.frozen? ⟨b2, 0, none⟩ = false := (World.frozen?_of_block hblk).trans r2
          have s3 : wo.frozen? ⟨b2, 1, none⟩ = false := (World.frozen?_of_block hblk).trans r3
          clear hblk r0 r1 r2 r3
          go_wp2_with (fail)
          refine bodyPost_ret (v := .agg #[.slice aT a cT, .slice aL nL cL]) (by simp [results, Try.results46, go_sem, *]) rfl ⟨_, _, a, nL, zT, zL, qa, rfl, ?_, ?_, hN.wT, hN.wL, ⟨hN1, hN16⟩, hnL, by omega, ?_, ?_⟩
          · exact row_mono (row_setc (row_setc hN.rT (fun k hk => by have := (hN.rT.lt k hk).1; omega)) (fun k hk => by have := (hN.rT.lt k hk).1; omega)) (by omega)
          · exact row_mono (row_setc (row_setc hN.rL (fun k hk => by have := (hN.rL.lt k hk).1; omega)) (fun k hk => by have := (hN.rL.lt k hk).1; omega)) (by omega)
          · exact (hca.set k1 0 _).set k1 1 _
          · exact grow_set (grow_set ((Gr.trans (Gr.of_ext HE0.out) hga).weak (by omega)) k4 0 _) k4 1 _

end Go.Proofs.Ytjmbhlhkjjinbaa