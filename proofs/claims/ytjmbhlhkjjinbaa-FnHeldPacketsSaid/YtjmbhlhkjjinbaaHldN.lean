/- The chapter of fog: adding a fog: the reference. Conditions: the fogs are valid, the further one too. -/
import Derived.Test.YtjmbhlhkjjinbaaHldM
import Derived.Test.YtjmbhlhkjjinbaaApp3
import Derived.Test.YtjmbhlhkjjinbaaHldG
namespace Go.Proofs.Ytjmbhlhkjjinbaa
open Go.RowKit
set_option linter.unusedSimpArgs false
set_option linter.unusedVariables false
open Go.Shelf Go.Sort

set_option maxRecDepth 100000 in
set_option maxHeartbeats 400000 in
theorem l1Least_any (a b : Int) (w : World) : Calls Try.prog 68 #[.int .i64 a, .int .i64 b] w fun e w' => e = .returned (.int .i64 (mnI a b)) ∧ w = w' := by
  unfold mnI
  by_cases h : a < b
  · rw [if_pos h]
    go_enter Try.func68, Try.ntmps68
    go_wp2
    go_ret
    exact ⟨rfl, rfl⟩
  · rw [if_neg h]
    go_enter Try.func68, Try.ntmps68
    go_wp2
    go_ret
    exact ⟨rfl, rfl⟩
theorem flat_snoc (K : List Tri) (y : Tri) : flat (K ++ [y]) = flat K ++ [y.1, y.2.1, y.2.2] := by simp [flat]
theorem flat_wf {nL : Int} {K : List Tri} (h : ∀ a ∈ K, wfT nL a) (hn : nL ≤ 100000) : ∀ x ∈ flat K, (Lit.int .i64 x).wf = true := fun x hx => by
  simp only [flat, List.mem_flatMap, List.mem_cons, List.not_mem_nil, or_false] at hx
  obtain ⟨y, hy, hx⟩ := hx
  obtain ⟨h1, h2, h3, h4⟩ := h y hy
  rcases hx with rfl | rfl | rfl <;> exact small_wf (by omega) (by omega)

theorem lit3_at (w : World) (g : Nat) (x0 x1 x2 : Int) (t : TypeId) (hg : g = w.heap.size) (h0 : (Lit.int .i64 x0).wf = true) (h1 : (Lit.int .i64 x1).wf = true) (h2 : (Lit.int .i64 x2).wf = true) : IntRow .i64 3 (w.alloc (.cells #[.int .i64 x0, .int .i64 x1, .int .i64 x2] t)) (.slice (some ⟨g, 0, none⟩) 1 1) 1 [x0, x1, x2] := by
  subst hg
  exact lit3_row w x0 x1 x2 t h0 h1 h2
theorem flat_take : ∀ (K : List Tri) (p : Nat), (flat K).take (p * 3) = flat (K.take p)
  | [], p => by simp [flat]
  | y :: K, 0 => by simp [flat]
  | y :: K, p + 1 => by
    have := flat_take K p
    rw [show (p + 1) * 3 = p * 3 + 1 + 1 + 1 by omega]
    simp only [flat, List.flatMap_cons, List.cons_append, List.nil_append, List.take_succ_cons] at this ⊢
    rw [this]
theorem flat_drop : ∀ (K : List Tri) (p : Nat), (flat K).drop (p * 3) = flat (K.drop p)
  | [], p => by simp [flat]
  | y :: K, 0 => by simp [flat]
  | y :: K, p + 1 => by
    have := flat_drop K p
    rw [show (p + 1) * 3 = p * 3 + 1 + 1 + 1 by omega]
    simp only [flat, List.flatMap_cons, List.cons_append, List.nil_append, List.drop_succ_cons] at this ⊢
    rw [this]
theorem flat_mid (A B : List Tri) (y : Tri) : flat (A ++ y :: B) = flat A ++ [y.1, y.2.1, y.2.2] ++ flat B := by simp [flat]
theorem flat_len (K : List Tri) : (flat K).length = K.length * 3 := by
  induction K with
  | nil => rfl
  | cons y K ih => simp only [flat, List.flatMap_cons, List.length_append, List.length_cons, List.length_nil] at ih ⊢; omega
theorem adS_len (z : List Int) (x : Tri) : ∀ k, (adS z x k).1.length ≤ k ∧ (adS z x k).2.2 ≤ (adS z x k).1.length
  | 0 => by simp [adS]
  | k + 1 => by
    obtain ⟨h1, h2⟩ := adS_len z x k
    rw [adS]
    split
    · exact ⟨by simp only; omega, h2⟩
    · refine ⟨by simp; omega, ?_⟩
      simp only [List.length_append, List.length_singleton]
      split <;> omega
/-- the three cells of a struct that lies in a block of its own -/
def Box3 (w : World) (b : Nat) (x y z : Int) : Prop :=
  w.cell? ⟨b, 0, none⟩ = some (.int .i64 x) ∧ w.cell? ⟨b, 1, none⟩ = some (.int .i64 y) ∧ w.cell? ⟨b, 2, none⟩ = some (.int .i64 z) ∧ w.frozen? ⟨b, 0, none⟩ = false ∧ w.frozen? ⟨b, 1, none⟩ = false ∧ w.frozen? ⟨b, 2, none⟩ = false ∧ b < w.heap.size
theorem Box3.grown {w w' : World} {b : Nat} {r : Option Nat} {x y z : Int} (h : Box3 w b x y z) (g : w.grownBy w' r) (hne : r ≠ some b) : Box3 w' b x y z := by
  obtain ⟨h1, h2, h3, f1, f2, f3, h5⟩ := h
  have hn : some b ≠ r := fun e => hne e.symm
  refine ⟨World.grownBy.cell g h1 hn, World.grownBy.cell g h2 hn, World.grownBy.cell g h3 hn, ?_, ?_, ?_, Nat.lt_of_lt_of_le h5 g.size⟩
  · rw [World.grownBy.frozen_far g _ h5 hn]; exact f1
  · rw [World.grownBy.frozen_far g _ h5 hn]; exact f2
  · rw [World.grownBy.frozen_far g _ h5 hn]; exact f3
theorem Box3.ext {w w' : World} {b : Nat} {x y z : Int} (h : Box3 w b x y z) (e : Ext w w') : Box3 w' b x y z := h.grown e.grown (by simp)
theorem Box3.new (w : World) (x y z : Int) (t : TypeId) : Box3 (w.alloc (.cells #[.int .i64 x, .int .i64 y, .int .i64 z] t)) w.heap.size x y z := by
  refine ⟨by simp, by simp, by simp, by simp, by simp, by simp, by rw [World.size_alloc]; omega⟩
theorem Box3.set1 {w : World} {b : Nat} {x y z : Int} (h : Box3 w b x y z) (u : Int) : Box3 (w.setCell ⟨b, 1, none⟩ (.int .i64 u)) b x u z := by
  obtain ⟨h1, h2, h3, f1, f2, f3, h5⟩ := h
  refine ⟨?_, World.cell?_setCell_same _ _ _ h2, ?_, ?_, ?_, ?_, by rw [World.size_setCell]; exact h5⟩
  · rw [World.cell?_setCell_other _ _ _ _ (by simp)]; exact h1
  · rw [World.cell?_setCell_other _ _ _ _ (by simp)]; exact h3
  · rw [World.frozen?_setCell]; exact f1
  · rw [World.frozen?_setCell]; exact f2
  · rw [World.frozen?_setCell]; exact f3
theorem Box3.set2 {w : World} {b : Nat} {x y z : Int} (h : Box3 w b x y z) (u : Int) : Box3 (w.setCell ⟨b, 2, none⟩ (.int .i64 u)) b x y u := by
  obtain ⟨h1, h2, h3, f1, f2, f3, h5⟩ := h
  refine ⟨?_, ?_, World.cell?_setCell_same _ _ _ h3, ?_, ?_, ?_, by rw [World.size_setCell]; exact h5⟩
  · rw [World.cell?_setCell_other _ _ _ _ (by simp)]; exact h1
  · rw [World.cell?_setCell_other _ _ _ _ (by simp)]; exact h2
  · rw [World.frozen?_setCell]; exact f1
  · rw [World.frozen?_setCell]; exact f2
  · rw [World.frozen?_setCell]; exact f3
theorem row_far {w : World} {g : Nat} {e : TypeId} {size : Nat} {v : Value} {n : Nat} {xs : List Value} (h : w.ownsRow (g + 1) e size v n xs) (o : Nat) (u : Value) : (w.setCell ⟨g, o, none⟩ u).ownsRow (g + 1) e size v n xs :=
  h.kept (row := some g) ⟨rfl, rfl, rfl, by simp, fun k _ hk => heap_setCell_other w ⟨g, o, none⟩ k u (fun e => hk (by rw [e]))⟩ (.inr (fun e => by have := (h.lt g e).1; omega))

set_option maxRecDepth 100000 in
set_option maxHeartbeats 4000000 in
theorem fgAdd_any (v : Value) (n : Nat) (z : List Int) (xl xa xb : Int) (w : World) (nL : Nat) (h : IntRow .i64 3 w v n z) (HOK : Hid (okFg nL z n = true)) (HX : Hid (wfT nL (xl, xa, xb))) (hnL : nL ≤ 1000) :
    Calls Try.prog 42 #[v, .agg #[.int .i64 xl, .int .i64 xa, .int .i64 xb]] w fun e w' => ∃ v', e = .returned v' ∧ w'.ownsRow w.heap.size 78 3 v' (addR z n (xl, xa, xb)).length ((flat (addR z n (xl, xa, xb))).map (Value.int .i64)) ∧ Ext w w' := by
  obtain ⟨i0, hi, hz0, hz1, hz2⟩ := info_parts info_Fog
  have hn60 := (okFg_iff HOK.out).1
  obtain ⟨hl, hm, hwf, ad, c, rfl, hnc, hcm, hcell⟩ := h
  have HW := hid hwf
  clear hwf hm
  go_enter Try.func42, Try.ntmps42
  go_wp2_with (fail)
  have e0 : Ext w (w.alloc (.cells #[.int .i64 xl, .int .i64 xa, .int .i64 xb] 78)) := (Ext.refl w).alloc _
  have hb0 := Box3.new w xl xa xb 78
  obtain ⟨gx, hgx⟩ : ∃ g, g = w.heap.size := ⟨_, rfl⟩
  rw [← hgx] at hb0 ⊢
  have HGX := hid hgx
  have hgx1 : w.heap.size ≤ gx := by omega
  have hgx2 : w.heap.size ≤ gx + 1 := by omega
  clear hgx
  go_loopw [5, 6, 11] (fun q5 q6 i wr => ∃ (k : Nat) (K : List Tri) (b0 b1 b2 : Int) (p : Nat), k ≤ n ∧ adS z (xl, xa, xb) k = (K, (b0, b1, b2), p) ∧ i = .int .i64 (k : Int) ∧ q6 = .int .i64 (p : Int) ∧ wr.ownsRow (gx + 1) 78 3 q5 K.length ((flat K).map (Value.int .i64)) ∧ Box3 wr gx b0 b1 b2 ∧ Ext w wr)
    (fun _ _ i _ => n - (intOf i).toNat)
  case atStart => exact ⟨0, [], xl, xa, xb, 0, Nat.zero_le _, rfl, rfl, rfl, World.ownsRow_nil _ _ _ _, hb0, e0⟩
  case round =>
    obtain ⟨k, K, b0, b1, b2, p, hk, hs, rfl, rfl, hrow, hbox, hE⟩ := hrel
    have HS := hid hs
    have hlen : K.length ≤ k ∧ p ≤ K.length := by have := adS_len z (xl, xa, xb) k; rw [hs] at this; exact this
    clear hs e0 hb0
    have HBOX := hid hbox
    have HROW := hid hrow
    obtain ⟨t0, t1, t2, f0, f1, f2, hgl⟩ := hbox
    by_cases hlt : k < n
    · obtain ⟨b, o, rfl, hb, hc⟩ := hcell.resolve_left (by omega)
      have hx0 := getD_wf (j := k * 3) HW.out (by omega)
      have hx1 := getD_wf (j := k * 3 + 1) HW.out (by omega)
      have hx2 := getD_wf (j := k * 3 + 2) HW.out (by omega)
      obtain ⟨x0, hx0⟩ : ∃ x, x = z.getD (k * 3) 0 := ⟨_, rfl⟩
      have s0 : wr.cell? ⟨b, o + k * 3, none⟩ = some (.int .i64 x0) := by rw [(Ext.cells hE).1 _ _ hb, show o + k * 3 = o + (k * 3) by omega, hc _ (by omega), hx0]
      have H0 := hid hx0
      clear hx0
      obtain ⟨x1, hx1⟩ : ∃ x, x = z.getD (k * 3 + 1) 0 := ⟨_, rfl⟩
      have s1 : wr.cell? ⟨b, o + k * 3 + 1, none⟩ = some (.int .i64 x1) := by rw [(Ext.cells hE).1 _ _ hb, show o + k * 3 + 1 = o + (k * 3 + 1) by omega, hc _ (by omega), hx1]
      have H1 := hid hx1
      clear hx1
      obtain ⟨x2, hx2⟩ : ∃ x, x = z.getD (k * 3 + 2) 0 := ⟨_, rfl⟩
      have s2 : wr.cell? ⟨b, o + k * 3 + 2, none⟩ = some (.int .i64 x2) := by rw [(Ext.cells hE).1 _ _ hb, show o + k * 3 + 2 = o + (k * 3 + 2) by omega, hc _ (by omega), hx2]
      have H2 := hid hx2
      clear hx2
      rw [← H0.out] at hx0
      rw [← H1.out] at hx1
      rw [← H2.out] at hx2
      have HY := hid (show triAt z k = (x0, x1, x2) by rw [H0.out, H1.out, H2.out]; rfl)
      have hbr : b < wr.heap.size := Nat.lt_of_lt_of_le hb hE.size
      clear hcell hc hrow
      have HNX := hid (show adS z (xl, xa, xb) (k + 1) = if touT (x0, x1, x2) (b0, b1, b2) = true then (K, updT (b0, b1, b2) (x0, x1, x2), p) else (K ++ [(x0, x1, x2)], (b0, b1, b2), if bef (x0, x1, x2) (b0, b1, b2) = true then K.length + 1 else p) by rw [adS, HY.out, HS.out])
      by_cases c0 : x0 = b0
      · subst c0
        by_cases c1 : x1 ≤ b2
        · by_cases c2 : b1 ≤ x2
          · have HN := hid (show adS z (xl, xa, xb) (k + 1) = (K, (x0, mnI b1 x1, mxI b2 x2), p) by rw [HNX.out, if_pos (by rw [touT_iff]; exact ⟨rfl, c1, c2⟩)]; rfl)
            go_wp2_with (fail)
            refine (l1Least_any _ _ _).mono ?_
            rintro e w' ⟨rfl, rfl⟩
            go_wp2_with (fail)
            refine (l1Most_any _ _ _).mono ?_
            rintro e w' ⟨rfl, rfl⟩
            go_wp2_with (fail)
            go_roundw
            case rel => exact ⟨k + 1, K, x0, _, _, p, by omega, HN.out, by first | go_num | rfl, rfl, row_ext (row_far (row_far HROW.out _ _) _ _) ((Ext.refl _).alloc _), ((HBOX.out.set1 _).set2 _).ext ((Ext.refl _).alloc _), ((hE.setCell (p := ⟨gx, 1, none⟩) hgx1 _).setCell (p := ⟨gx, 2, none⟩) hgx1 _).alloc _⟩
            case measure => simp [intOf]; omega
          · by_cases d : x1 < b1
            · have HN := hid (show adS z (xl, xa, xb) (k + 1) = (K ++ [(x0, x1, x2)], (x0, b1, b2), (K.length + 1)) by rw [HNX.out, if_neg (by rw [touT_iff]; exact fun h => c2 h.2.2), if_pos (by rw [bef_iff]; exact .inr ⟨rfl, d⟩)])
              go_wp2_with (at_builtin; go_loud (refine wpList_src3 rfl (.tmp 46) (.tmp 48) 28 rfl (gx + 1) 78 i0 _ Try.underlying28 hi hz0 hz1 hz2 rfl _ K.length ((flat K).map (Value.int .i64)) rfl (row_ext HROW.out (((Ext.refl wr).alloc _).alloc _)) _ 1 [x0, x1, x2] rfl (lit3_at _ _ x0 x1 x2 _ (by simp) hx0 hx1 hx2) (by omega) (by simp; omega) ?_; intro v1 w1 hr1 hg1; obtain ⟨a1, c1', rfl, _, _, _⟩ := row_shape hr1; have hY1 := ((Box3.new wr x0 x1 x2 78).ext ((Ext.refl _).alloc _)).grown hg1 (fun e => by have := (HROW.out.lt _ e).2; omega); have hX1 := (HBOX.out.ext (((Ext.refl wr).alloc _).alloc _)).grown hg1 (fun e => by have := (HROW.out.lt _ e).1; omega); have hE1 := Ext.of_grownAt ((hE.alloc _).alloc _) hg1 (fun q hq => by have := (HROW.out.lt q hq).1; omega); have HXN := hid hX1; obtain ⟨y0, y1, y2, _, _, _, _⟩ := hY1; obtain ⟨z0, z1, z2, _, _, _, _⟩ := hX1))
              go_roundw
              case rel => exact ⟨k + 1, K ++ [(x0, x1, x2)], _, b1, b2, (K.length + 1), by omega, HN.out, by first | go_num | rfl, by first | rfl | go_num, by rw [flat_snoc, List.map_append, List.length_append]; exact hr1, HXN.out, hE1⟩
              case measure => simp [intOf]; omega
            · have HN := hid (show adS z (xl, xa, xb) (k + 1) = (K ++ [(x0, x1, x2)], (x0, b1, b2), p) by rw [HNX.out, if_neg (by rw [touT_iff]; exact fun h => c2 h.2.2), if_neg (by rw [bef_iff]; exact fun h => h.elim (fun h => absurd h (Int.lt_irrefl _)) (fun h => d h.2))])
              go_wp2_with (at_builtin; go_loud (refine wpList_src3 rfl (.tmp 46) (.tmp 48) 28 rfl (gx + 1) 78 i0 _ Try.underlying28 hi hz0 hz1 hz2 rfl _ K.length ((flat K).map (Value.int .i64)) rfl (row_ext HROW.out (((Ext.refl wr).alloc _).alloc _)) _ 1 [x0, x1, x2] rfl (lit3_at _ _ x0 x1 x2 _ (by simp) hx0 hx1 hx2) (by omega) (by simp; omega) ?_; intro v1 w1 hr1 hg1; obtain ⟨a1, c1', rfl, _, _, _⟩ := row_shape hr1; have hY1 := ((Box3.new wr x0 x1 x2 78).ext ((Ext.refl _).alloc _)).grown hg1 (fun e => by have := (HROW.out.lt _ e).2; omega); have hX1 := (HBOX.out.ext (((Ext.refl wr).alloc _).alloc _)).grown hg1 (fun e => by have := (HROW.out.lt _ e).1; omega); have hE1 := Ext.of_grownAt ((hE.alloc _).alloc _) hg1 (fun q hq => by have := (HROW.out.lt q hq).1; omega); have HXN := hid hX1; obtain ⟨y0, y1, y2, _, _, _, _⟩ := hY1; obtain ⟨z0, z1, z2, _, _, _, _⟩ := hX1))
              go_roundw
              case rel => exact ⟨k + 1, K ++ [(x0, x1, x2)], _, b1, b2, p, by omega, HN.out, by first | go_num | rfl, by first | rfl | go_num, by rw [flat_snoc, List.map_append, List.length_append]; exact hr1, HXN.out, hE1⟩
              case measure => simp [intOf]; omega
        · by_cases d : x1 < b1
          · have HN := hid (show adS z (xl, xa, xb) (k + 1) = (K ++ [(x0, x1, x2)], (x0, b1, b2), (K.length + 1)) by rw [HNX.out, if_neg (by rw [touT_iff]; exact fun h => c1 h.2.1), if_pos (by rw [bef_iff]; exact .inr ⟨rfl, d⟩)])
            go_wp2_with (at_builtin; go_loud (refine wpList_src3 rfl (.tmp 46) (.tmp 48) 28 rfl (gx + 1) 78 i0 _ Try.underlying28 hi hz0 hz1 hz2 rfl _ K.length ((flat K).map (Value.int .i64)) rfl (row_ext HROW.out (((Ext.refl wr).alloc _).alloc _)) _ 1 [x0, x1, x2] rfl (lit3_at _ _ x0 x1 x2 _ (by simp) hx0 hx1 hx2) (by omega) (by simp; omega) ?_; intro v1 w1 hr1 hg1; obtain ⟨a1, c1', rfl, _, _, _⟩ := row_shape hr1; have hY1 := ((Box3.new wr x0 x1 x2 78).ext ((Ext.refl _).alloc _)).grown hg1 (fun e => by have := (HROW.out.lt _ e).2; omega); have hX1 := (HBOX.out.ext (((Ext.refl wr).alloc _).alloc _)).grown hg1 (fun e => by have := (HROW.out.lt _ e).1; omega); have hE1 := Ext.of_grownAt ((hE.alloc _).alloc _) hg1 (fun q hq => by have := (HROW.out.lt q hq).1; omega); have HXN := hid hX1; obtain ⟨y0, y1, y2, _, _, _, _⟩ := hY1; obtain ⟨z0, z1, z2, _, _, _, _⟩ := hX1))
            go_roundw
            case rel => exact ⟨k + 1, K ++ [(x0, x1, x2)], _, b1, b2, (K.length + 1), by omega, HN.out, by first | go_num | rfl, by first | rfl | go_num, by rw [flat_snoc, List.map_append, List.length_append]; exact hr1, HXN.out, hE1⟩
            case measure => simp [intOf]; omega
          · have HN := hid (show adS z (xl, xa, xb) (k + 1) = (K ++ [(x0, x1, x2)], (x0, b1, b2), p) by rw [HNX.out, if_neg (by rw [touT_iff]; exact fun h => c1 h.2.1), if_neg (by rw [bef_iff]; exact fun h => h.elim (fun h => absurd h (Int.lt_irrefl _)) (fun h => d h.2))])
            go_wp2_with (at_builtin; go_loud (refine wpList_src3 rfl (.tmp 46) (.tmp 48) 28 rfl (gx + 1) 78 i0 _ Try.underlying28 hi hz0 hz1 hz2 rfl _ K.length ((flat K).map (Value.int .i64)) rfl (row_ext HROW.out (((Ext.refl wr).alloc _).alloc _)) _ 1 [x0, x1, x2] rfl (lit3_at _ _ x0 x1 x2 _ (by simp) hx0 hx1 hx2) (by omega) (by simp; omega) ?_; intro v1 w1 hr1 hg1; obtain ⟨a1, c1', rfl, _, _, _⟩ := row_shape hr1; have hY1 := ((Box3.new wr x0 x1 x2 78).ext ((Ext.refl _).alloc _)).grown hg1 (fun e => by have := (HROW.out.lt _ e).2; omega); have hX1 := (HBOX.out.ext (((Ext.refl wr).alloc _).alloc _)).grown hg1 (fun e => by have := (HROW.out.lt _ e).1; omega); have hE1 := Ext.of_grownAt ((hE.alloc _).alloc _) hg1 (fun q hq => by have := (HROW.out.lt q hq).1; omega); have HXN := hid hX1; obtain ⟨y0, y1, y2, _, _, _, _⟩ := hY1; obtain ⟨z0, z1, z2, _, _, _, _⟩ := hX1))
            go_roundw
            case rel => exact ⟨k + 1, K ++ [(x0, x1, x2)], _, b1, b2, p, by omega, HN.out, by first | go_num | rfl, by first | rfl | go_num, by rw [flat_snoc, List.map_append, List.length_append]; exact hr1, HXN.out, hE1⟩
            case measure => simp [intOf]; omega
      · by_cases d : x0 < b0
        · have HN := hid (show adS z (xl, xa, xb) (k + 1) = (K ++ [(x0, x1, x2)], (b0, b1, b2), (K.length + 1)) by rw [HNX.out, if_neg (by rw [touT_iff]; exact fun h => c0 h.1), if_pos (by rw [bef_iff]; exact .inl d)])
          go_wp2_with (at_builtin; go_loud (refine wpList_src3 rfl (.tmp 46) (.tmp 48) 28 rfl (gx + 1) 78 i0 _ Try.underlying28 hi hz0 hz1 hz2 rfl _ K.length ((flat K).map (Value.int .i64)) rfl (row_ext HROW.out (((Ext.refl wr).alloc _).alloc _)) _ 1 [x0, x1, x2] rfl (lit3_at _ _ x0 x1 x2 _ (by simp) hx0 hx1 hx2) (by omega) (by simp; omega) ?_; intro v1 w1 hr1 hg1; obtain ⟨a1, c1', rfl, _, _, _⟩ := row_shape hr1; have hY1 := ((Box3.new wr x0 x1 x2 78).ext ((Ext.refl _).alloc _)).grown hg1 (fun e => by have := (HROW.out.lt _ e).2; omega); have hX1 := (HBOX.out.ext (((Ext.refl wr).alloc _).alloc _)).grown hg1 (fun e => by have := (HROW.out.lt _ e).1; omega); have hE1 := Ext.of_grownAt ((hE.alloc _).alloc _) hg1 (fun q hq => by have := (HROW.out.lt q hq).1; omega); have HXN := hid hX1; obtain ⟨y0, y1, y2, _, _, _, _⟩ := hY1; obtain ⟨z0, z1, z2, _, _, _, _⟩ := hX1))
          go_roundw
          case rel => exact ⟨k + 1, K ++ [(x0, x1, x2)], _, b1, b2, (K.length + 1), by omega, HN.out, by first | go_num | rfl, by first | rfl | go_num, by rw [flat_snoc, List.map_append, List.length_append]; exact hr1, HXN.out, hE1⟩
          case measure => simp [intOf]; omega
        · have HN := hid (show adS z (xl, xa, xb) (k + 1) = (K ++ [(x0, x1, x2)], (b0, b1, b2), p) by rw [HNX.out, if_neg (by rw [touT_iff]; exact fun h => c0 h.1), if_neg (by rw [bef_iff]; exact fun h => h.elim d (fun h => c0 h.1))])
          go_wp2_with (at_builtin; go_loud (refine wpList_src3 rfl (.tmp 46) (.tmp 48) 28 rfl (gx + 1) 78 i0 _ Try.underlying28 hi hz0 hz1 hz2 rfl _ K.length ((flat K).map (Value.int .i64)) rfl (row_ext HROW.out (((Ext.refl wr).alloc _).alloc _)) _ 1 [x0, x1, x2] rfl (lit3_at _ _ x0 x1 x2 _ (by simp) hx0 hx1 hx2) (by omega) (by simp; omega) ?_; intro v1 w1 hr1 hg1; obtain ⟨a1, c1', rfl, _, _, _⟩ := row_shape hr1; have hY1 := ((Box3.new wr x0 x1 x2 78).ext ((Ext.refl _).alloc _)).grown hg1 (fun e => by have := (HROW.out.lt _ e).2; omega); have hX1 := (HBOX.out.ext (((Ext.refl wr).alloc _).alloc _)).grown hg1 (fun e => by have := (HROW.out.lt _ e).1; omega); have hE1 := Ext.of_grownAt ((hE.alloc _).alloc _) hg1 (fun q hq => by have := (HROW.out.lt q hq).1; omega); have HXN := hid hX1; obtain ⟨y0, y1, y2, _, _, _, _⟩ := hY1; obtain ⟨z0, z1, z2, _, _, _, _⟩ := hX1))
          go_roundw
          case rel => exact ⟨k + 1, K ++ [(x0, x1, x2)], _, b1, b2, p, by omega, HN.out, by first | go_num | rfl, by first | rfl | go_num, by rw [flat_snoc, List.map_append, List.length_append]; exact hr1, HXN.out, hE1⟩
          case measure => simp [intOf]; omega
    · obtain rfl : k = n := by omega
      obtain ⟨_, _, _, hKw, hxw⟩ := adS_inv HOK.out HX.out k (Nat.le_refl _)
      rw [HS.out] at hKw hxw
      obtain ⟨⟨hw0, hw1⟩, hw2, hw3, hw4⟩ := hxw
      simp only at hw0 hw1 hw2 hw3 hw4
      have hb0 : (Lit.int .i64 b0).wf = true := small_wf (by omega) (by omega)
      have hb1 : (Lit.int .i64 b1).wf = true := small_wf (by omega) (by omega)
      have hb2 : (Lit.int .i64 b2).wf = true := small_wf (by omega) (by omega)
      have HFW := hid (flat_wf hKw (by omega))
      have HAD := hid (show addR z k (xl, xa, xb) = K.take p ++ (b0, b1, b2) :: K.drop p by unfold addR; rw [HS.out])
      obtain ⟨z3, hz3⟩ : ∃ z3, z3 = flat K := ⟨_, rfl⟩
      have HZ3 := hid hz3
      have hl3 : z3.length = K.length * 3 := by rw [hz3, flat_len]
      rw [← hz3] at hrow HROW
      have HR0 := hid (row_ints hrow (by unfold maxLen; omega) (by rw [hz3]; exact HFW.out))
      clear hz3 hKw hcell hw0 hw1 hw2 hw3 hw4
      have hmk : p ≤ K.length := hlen.2
      have hKN : K.length ≤ 60 := by omega
      rcases hrow.2 with ⟨hv4, hk4⟩ | ⟨g4, c4, cur4, hv4, hg4a, hg4b, hg4c, hg4d, _, _⟩
      · have hk5 : K.length = 0 := hk4
        obtain rfl : p = 0 := by omega
        subst hv4
        have HZN := hid (show z3 = [] from List.eq_nil_of_length_eq_zero (by omega))
        clear hk4 hrow
        have EW : Ext w wr := hE
        have EB : Ext wr wr := Ext.refl _
        have SKP := hid (fun (W : World) (hW : Ext wr W) => show W.cell? ⟨gx, 0, none⟩ = some (.int .i64 b0) ∧ W.cell? ⟨gx, 1, none⟩ = some (.int .i64 b1) ∧ W.cell? ⟨gx, 2, none⟩ = some (.int .i64 b2) from ⟨(HBOX.out.ext hW).1, (HBOX.out.ext hW).2.1, (HBOX.out.ext hW).2.2.1⟩)
        go_wp2_with (fail)
        have HT := hid (show IntRow .i64 3 wr (.slice none 0 0) 0 (z3.take (0 * 3)) from by rw [HZN.out]; exact none3 _ _ _ (Nat.zero_le _))
        have HD := hid (show IntRow .i64 3 wr (.slice none 0 0) (K.length - 0) (z3.drop (0 * 3)) from by rw [HZN.out, hk5]; exact none3 _ _ _ (Nat.zero_le _))
        refine wp_region_noPanic ?_
        refine wp_region_held_drew (S := (fun W => W.cell? ⟨gx, 0, none⟩ = some (.int .i64 b0) ∧ W.cell? ⟨gx, 1, none⟩ = some (.int .i64 b1) ∧ W.cell? ⟨gx, 2, none⟩ = some (.int .i64 b2))) (by kernel_rfl) ?_ (fun hHeld => ?_)
        · first | exact SKP.out _ (EB.drew) | (dsimp only; exact SKP.out _ (EB.drew))
        have ED := EB.drew
        generalize wr.drew = wd at *
        refine wpAnyH_take (i := 1) (oi := { dst := some 73, op := _, type := _, pos := _, after := _, guard := _ }) (v := ?_) rfl (by kernel_rfl) (by kernel_rfl) (by kernel_rfl) (fun _ _ _ h => h) (Or.inl ⟨by rfl, ?_⟩) (by assumption) ?_
        rotate_left
        · (intro w hSw; (try dsimp only at hSw); go_simp) <;> (first | done | with_reducible rfl | rfl)
        try simp only [Act.put, List.setIfInBounds_toArray, List.set_cons_zero, List.set_cons_succ]
        refine wpAnyH_take (i := 2) (oi := { dst := some 74, op := _, type := _, pos := _, after := _, guard := _ }) (v := ?_) rfl (by kernel_rfl) (by kernel_rfl) (by kernel_rfl) (fun _ _ _ h => h) (Or.inl ⟨by rfl, ?_⟩) (by assumption) ?_
        rotate_left
        · (intro w hSw; (try dsimp only at hSw); go_simp) <;> (first | done | with_reducible rfl | rfl)
        try simp only [Act.put, List.setIfInBounds_toArray, List.set_cons_zero, List.set_cons_succ]
        refine wpAnyH_take (i := 3) (oi := { dst := some 75, op := _, type := _, pos := _, after := _, guard := _ }) (v := ?_) rfl (by kernel_rfl) (by kernel_rfl) (by kernel_rfl) (fun _ _ _ h => h) (Or.inl ⟨by rfl, ?_⟩) (by assumption) ?_
        rotate_left
        · (intro w hSw; (try dsimp only at hSw); go_simp) <;> (first | done | with_reducible rfl | rfl)
        try simp only [Act.put, List.setIfInBounds_toArray, List.set_cons_zero, List.set_cons_succ]
        refine wpAnyH_take (i := 5) (oi := { dst := some 77, op := _, type := _, pos := _, after := _, guard := _ }) (v := ?_) rfl (by kernel_rfl) (by kernel_rfl) (by kernel_rfl) (fun _ _ _ h => h) (Or.inl ⟨by rfl, ?_⟩) (by assumption) ?_
        rotate_left
        · (intro w hSw; (try dsimp only at hSw); go_simp) <;> (first | done | with_reducible rfl | rfl)
        try simp only [Act.put, List.setIfInBounds_toArray, List.set_cons_zero, List.set_cons_succ]
        refine wpAnyH_take (i := 8) (oi := { dst := some 80, op := _, type := _, pos := _, after := _, guard := _ }) (v := ?_) rfl (by kernel_rfl) (by kernel_rfl) (by kernel_rfl) (fun _ _ _ h => h) (Or.inl ⟨by rfl, ?_⟩) (by assumption) ?_
        rotate_left
        · (intro w hSw; (try dsimp only at hSw); go_simp) <;> (first | done | with_reducible rfl | rfl)
        try simp only [Act.put, List.setIfInBounds_toArray, List.set_cons_zero, List.set_cons_succ]
        refine wpAnyH_take (i := 9) (oi := { dst := some 81, op := _, type := _, pos := _, after := _, guard := _ }) (v := ?_) rfl (by kernel_rfl) (by kernel_rfl) (by kernel_rfl) (fun _ _ _ h => h) (Or.inl ⟨by rfl, ?_⟩) (by assumption) ?_
        rotate_left
        · (intro w hSw; (try dsimp only at hSw); go_simp) <;> (first | done | with_reducible rfl | rfl)
        try simp only [Act.put, List.setIfInBounds_toArray, List.set_cons_zero, List.set_cons_succ]
        refine wpAnyH_take (i := 10) (oi := { dst := some 82, op := _, type := _, pos := _, after := _, guard := _ }) (v := ?_) rfl (by kernel_rfl) (by kernel_rfl) (by kernel_rfl) (fun _ _ _ h => h) (Or.inl ⟨by rfl, ?_⟩) (by assumption) ?_
        rotate_left
        · (intro w hSw; (try dsimp only at hSw); go_simp) <;> (first | done | with_reducible rfl | rfl)
        try simp only [Act.put, List.setIfInBounds_toArray, List.set_cons_zero, List.set_cons_succ]
        refine wpAnyH_ready (rs := [0, 6]) (by kernel_rfl) (by simp) ?_
        refine AllReadyH.cons (o := { dst := some 72, op := _, type := _, pos := _, after := _, guard := _ }) rfl (fun KK hK => ?_) (AllReadyH.cons (o := { dst := some 78, op := _, type := _, pos := _, after := _, guard := _ }) rfl (fun KK hK => ?_) AllReadyH.nil)
        · go_simp
          have E1 : Ext wr (wd.alloc (.cells #[] 78)) := Ext.alloc ED _
          have R1 := row_mono (row_empty3 wd 78) (show wr.heap.size ≤ wd.heap.size from ED.size)
          obtain ⟨g29, hg29⟩ : ∃ q, q = wd.heap.size := ⟨_, rfl⟩
          have hgl : wr.heap.size ≤ g29 := by rw [hg29]; exact ED.size
          have hlt29 : g29 < (wd.alloc (.cells #[] 78)).heap.size := by rw [hg29]; simp
          rw [← hg29] at R1 ⊢
          clear hg29
          obtain ⟨wk1, hw1⟩ : ∃ W, W = wd.alloc (.cells #[] 78) := ⟨_, rfl⟩
          rw [← hw1] at E1 R1 hlt29 ⊢
          clear hw1
          refine hK.out _ _ (by first | exact SKP.out _ E1 | (dsimp only; exact SKP.out _ E1)) (fun hHeld => ?_)
          clear hK KK
          try simp only [Act.put, List.setIfInBounds_toArray, List.set_cons_zero, List.set_cons_succ]
          refine wpAnyH_ready (rs := [4, 6]) (by kernel_rfl) (by simp) ?_
          refine AllReadyH.cons (o := { dst := some 76, op := _, type := _, pos := _, after := _, guard := _ }) rfl (fun KK hK => ?_) (AllReadyH.cons (o := { dst := some 78, op := _, type := _, pos := _, after := _, guard := _ }) rfl (fun KK hK => ?_) AllReadyH.nil)
          · refine step_src3 (by rfl) (.tmp 72) (.tmp 75) 28 (by rfl) wr.heap.size 78 i0 _ Try.underlying28 hi hz0 hz1 hz2 rfl _ 0 [] (by rfl) R1 _ 0 (z3.take (0 * 3)) (by rfl) (HT.out.ext E1) (by omega) E1.size ?_
            intro v2 wk2 R2 G2
            have E2 : Ext wr wk2 := Ext.of_grownAt E1 G2 (fun q hq => (R1.lt q hq).1)
            refine hK.out _ _ (by first | exact SKP.out _ E2 | (dsimp only; exact SKP.out _ E2)) (fun hHeld => ?_)
            clear hK KK
            try simp only [Act.put, List.setIfInBounds_toArray, List.set_cons_zero, List.set_cons_succ]
            refine wpAnyH_ready (rs := [6]) (by kernel_rfl) (by simp) ?_
            refine AllReadyH.cons (o := { dst := some 78, op := _, type := _, pos := _, after := _, guard := _ }) rfl (fun KK hK => ?_) AllReadyH.nil
            go_simp
            have E3 : Ext wr (wk2.alloc (.cells #[.int .i64 b0, .int .i64 b1, .int .i64 b2] 78)) := Ext.alloc E2 _
            have L3 := lit3_row wk2 b0 b1 b2 78 hb0 hb1 hb2
            have R3 := row_ext R2 ((Ext.refl wk2).alloc (.cells #[.int .i64 b0, .int .i64 b1, .int .i64 b2] 78))
            obtain ⟨g35, hg35⟩ : ∃ q, q = wk2.heap.size := ⟨_, rfl⟩
            rw [← hg35] at L3 ⊢
            clear hg35
            obtain ⟨wk3, hw3⟩ : ∃ W, W = wk2.alloc (.cells #[.int .i64 b0, .int .i64 b1, .int .i64 b2] 78) := ⟨_, rfl⟩
            rw [← hw3] at E3 R3 L3 ⊢
            clear hw3
            refine hK.out _ _ (by first | exact SKP.out _ E3 | (dsimp only; exact SKP.out _ E3)) (fun hHeld => ?_)
            clear hK KK
            try simp only [Act.put, List.setIfInBounds_toArray, List.set_cons_zero, List.set_cons_succ]
            refine wpAnyH_ready (rs := [7]) (by kernel_rfl) (by simp) ?_
            refine AllReadyH.cons (o := { dst := some 79, op := _, type := _, pos := _, after := _, guard := _ }) rfl (fun KK hK => ?_) AllReadyH.nil
            refine step_src3 (by rfl) (.tmp 76) (.tmp 78) 28 (by rfl) wr.heap.size 78 i0 _ Try.underlying28 hi hz0 hz1 hz2 rfl _ (0 + 0) _ (by rfl) R3 _ 1 [b0, b1, b2] (by rfl) L3 (by omega) E3.size ?_
            intro v4 wk4 R4 G4
            have E4 : Ext wr wk4 := Ext.of_grownAt E3 G4 (fun q hq => (R3.lt q hq).1)
            refine hK.out _ _ (by first | exact SKP.out _ E4 | (dsimp only; exact SKP.out _ E4)) (fun hHeld => ?_)
            clear hK KK
            try simp only [Act.put, List.setIfInBounds_toArray, List.set_cons_zero, List.set_cons_succ]
            refine wpAnyH_ready (rs := [11]) (by kernel_rfl) (by simp) ?_
            refine AllReadyH.cons (o := { dst := some 83, op := _, type := _, pos := _, after := _, guard := _ }) rfl (fun KK hK => ?_) AllReadyH.nil
            refine step_src3 (by rfl) (.tmp 79) (.tmp 82) 28 (by rfl) wr.heap.size 78 i0 _ Try.underlying28 hi hz0 hz1 hz2 rfl _ (0 + 0 + 1) _ (by rfl) R4 _ (K.length - 0) (z3.drop (0 * 3)) (by rfl) (HD.out.ext E4) (by omega) E4.size ?_
            intro v5 wk5 R5 G5
            have E5 : Ext wr wk5 := Ext.of_grownAt E4 G5 (fun q hq => (R4.lt q hq).1)
            refine hK.out _ _ (by first | exact SKP.out _ E5 | (dsimp only; exact SKP.out _ E5)) (fun hHeld => ?_)
            clear hK KK
            try simp only [Act.put, List.setIfInBounds_toArray, List.set_cons_zero, List.set_cons_succ]
            refine wpAnyH_take (i := 12) (oi := { dst := some 4, op := _, type := _, pos := _, after := _, guard := _ }) (v := ?_) rfl (by kernel_rfl) (by kernel_rfl) (by kernel_rfl) (fun _ _ _ h => h) (Or.inl ⟨by rfl, ?_⟩) (by assumption) ?_
            rotate_left
            · (intro w hSw; (try dsimp only at hSw); go_simp) <;> (first | done | with_reducible rfl | rfl)
            try simp only [Act.put, List.setIfInBounds_toArray, List.set_cons_zero, List.set_cons_succ]
            refine wpAnyH_done (by kernel_rfl) ?_ _
            refine NoPanic.normal ?_
            go_wp2_with (fail)
            go_ret
            refine ⟨_, rfl, ?_, EW.trans E5⟩
            have e1 : (addR z k (xl, xa, xb)).length = 0 + 0 + 1 + (K.length - 0) := by rw [HAD.out]; simp; omega
            have e2 : (flat (addR z k (xl, xa, xb))).map (Value.int .i64) = [] ++ (z3.take (0 * 3)).map (Value.int .i64) ++ [b0, b1, b2].map (Value.int .i64) ++ (z3.drop (0 * 3)).map (Value.int .i64) := by rw [HAD.out, HZ3.out, flat_take, flat_drop, flat_mid]; simp
            rw [e1, e2]
            exact row_mono R5 EW.size
          · go_simp
            have E6 : Ext wr (wk1.alloc (.cells #[.int .i64 b0, .int .i64 b1, .int .i64 b2] 78)) := Ext.alloc E1 _
            have L6 := lit3_row wk1 b0 b1 b2 78 hb0 hb1 hb2
            have R6 := row_ext R1 ((Ext.refl wk1).alloc (.cells #[.int .i64 b0, .int .i64 b1, .int .i64 b2] 78))
            obtain ⟨g35, hg35⟩ : ∃ q, q = wk1.heap.size := ⟨_, rfl⟩
            have hne : g29 ≠ g35 := by rw [hg35]; omega
            rw [← hg35] at L6 ⊢
            clear hg35
            obtain ⟨wk6, hw6⟩ : ∃ W, W = wk1.alloc (.cells #[.int .i64 b0, .int .i64 b1, .int .i64 b2] 78) := ⟨_, rfl⟩
            rw [← hw6] at E6 R6 L6 ⊢
            clear hw6
            refine hK.out _ _ (by first | exact SKP.out _ E6 | (dsimp only; exact SKP.out _ E6)) (fun hHeld => ?_)
            clear hK KK
            try simp only [Act.put, List.setIfInBounds_toArray, List.set_cons_zero, List.set_cons_succ]
            refine wpAnyH_ready (rs := [4]) (by kernel_rfl) (by simp) ?_
            refine AllReadyH.cons (o := { dst := some 76, op := _, type := _, pos := _, after := _, guard := _ }) rfl (fun KK hK => ?_) AllReadyH.nil
            refine step_src3 (by rfl) (.tmp 72) (.tmp 75) 28 (by rfl) wr.heap.size 78 i0 _ Try.underlying28 hi hz0 hz1 hz2 rfl _ 0 [] (by rfl) R6 _ 0 (z3.take (0 * 3)) (by rfl) (HT.out.ext E6) (by omega) E6.size ?_
            intro v7 wk7 R7 G7
            have E7 : Ext wr wk7 := Ext.of_grownAt E6 G7 (fun q hq => (R6.lt q hq).1)
            have L7 := introw_far3 L6 G7 (by simp [Value.ownBlock]; omega)
            refine hK.out _ _ (by first | exact SKP.out _ E7 | (dsimp only; exact SKP.out _ E7)) (fun hHeld => ?_)
            clear hK KK
            try simp only [Act.put, List.setIfInBounds_toArray, List.set_cons_zero, List.set_cons_succ]
            refine wpAnyH_ready (rs := [7]) (by kernel_rfl) (by simp) ?_
            refine AllReadyH.cons (o := { dst := some 79, op := _, type := _, pos := _, after := _, guard := _ }) rfl (fun KK hK => ?_) AllReadyH.nil
            refine step_src3 (by rfl) (.tmp 76) (.tmp 78) 28 (by rfl) wr.heap.size 78 i0 _ Try.underlying28 hi hz0 hz1 hz2 rfl _ (0 + 0) _ (by rfl) R7 _ 1 [b0, b1, b2] (by rfl) L7 (by omega) E7.size ?_
            intro v8 wk8 R8 G8
            have E8 : Ext wr wk8 := Ext.of_grownAt E7 G8 (fun q hq => (R7.lt q hq).1)
            refine hK.out _ _ (by first | exact SKP.out _ E8 | (dsimp only; exact SKP.out _ E8)) (fun hHeld => ?_)
            clear hK KK
            try simp only [Act.put, List.setIfInBounds_toArray, List.set_cons_zero, List.set_cons_succ]
            refine wpAnyH_ready (rs := [11]) (by kernel_rfl) (by simp) ?_
            refine AllReadyH.cons (o := { dst := some 83, op := _, type := _, pos := _, after := _, guard := _ }) rfl (fun KK hK => ?_) AllReadyH.nil
            refine step_src3 (by rfl) (.tmp 79) (.tmp 82) 28 (by rfl) wr.heap.size 78 i0 _ Try.underlying28 hi hz0 hz1 hz2 rfl _ (0 + 0 + 1) _ (by rfl) R8 _ (K.length - 0) (z3.drop (0 * 3)) (by rfl) (HD.out.ext E8) (by omega) E8.size ?_
            intro v9 wk9 R9 G9
            have E9 : Ext wr wk9 := Ext.of_grownAt E8 G9 (fun q hq => (R8.lt q hq).1)
            refine hK.out _ _ (by first | exact SKP.out _ E9 | (dsimp only; exact SKP.out _ E9)) (fun hHeld => ?_)
            clear hK KK
            try simp only [Act.put, List.setIfInBounds_toArray, List.set_cons_zero, List.set_cons_succ]
            refine wpAnyH_take (i := 12) (oi := { dst := some 4, op := _, type := _, pos := _, after := _, guard := _ }) (v := ?_) rfl (by kernel_rfl) (by kernel_rfl) (by kernel_rfl) (fun _ _ _ h => h) (Or.inl ⟨by rfl, ?_⟩) (by assumption) ?_
            rotate_left
            · (intro w hSw; (try dsimp only at hSw); go_simp) <;> (first | done | with_reducible rfl | rfl)
            try simp only [Act.put, List.setIfInBounds_toArray, List.set_cons_zero, List.set_cons_succ]
            refine wpAnyH_done (by kernel_rfl) ?_ _
            refine NoPanic.normal ?_
            go_wp2_with (fail)
            go_ret
            refine ⟨_, rfl, ?_, EW.trans E9⟩
            have e1 : (addR z k (xl, xa, xb)).length = 0 + 0 + 1 + (K.length - 0) := by rw [HAD.out]; simp; omega
            have e2 : (flat (addR z k (xl, xa, xb))).map (Value.int .i64) = [] ++ (z3.take (0 * 3)).map (Value.int .i64) ++ [b0, b1, b2].map (Value.int .i64) ++ (z3.drop (0 * 3)).map (Value.int .i64) := by rw [HAD.out, HZ3.out, flat_take, flat_drop, flat_mid]; simp
            rw [e1, e2]
            exact row_mono R9 EW.size
        · go_simp
          have E10 : Ext wr (wd.alloc (.cells #[.int .i64 b0, .int .i64 b1, .int .i64 b2] 78)) := Ext.alloc ED _
          have L10 := lit3_row wd b0 b1 b2 78 hb0 hb1 hb2
          obtain ⟨g35, hg35⟩ : ∃ q, q = wd.heap.size := ⟨_, rfl⟩
          have hlt35 : g35 < (wd.alloc (.cells #[.int .i64 b0, .int .i64 b1, .int .i64 b2] 78)).heap.size := by rw [hg35]; simp
          rw [← hg35] at L10 ⊢
          clear hg35
          obtain ⟨wk10, hw10⟩ : ∃ W, W = wd.alloc (.cells #[.int .i64 b0, .int .i64 b1, .int .i64 b2] 78) := ⟨_, rfl⟩
          rw [← hw10] at E10 L10 hlt35 ⊢
          clear hw10
          refine hK.out _ _ (by first | exact SKP.out _ E10 | (dsimp only; exact SKP.out _ E10)) (fun hHeld => ?_)
          clear hK KK
          try simp only [Act.put, List.setIfInBounds_toArray, List.set_cons_zero, List.set_cons_succ]
          refine wpAnyH_ready (rs := [0]) (by kernel_rfl) (by simp) ?_
          refine AllReadyH.cons (o := { dst := some 72, op := _, type := _, pos := _, after := _, guard := _ }) rfl (fun KK hK => ?_) AllReadyH.nil
          go_simp
          have E11 : Ext wr (wk10.alloc (.cells #[] 78)) := Ext.alloc E10 _
          have R11 := row_mono (row_empty3 wk10 78) (show wr.heap.size ≤ wk10.heap.size from E10.size)
          have L11 := IntRow.ext L10 ((Ext.refl wk10).alloc (.cells #[] 78))
          obtain ⟨g29, hg29⟩ : ∃ q, q = wk10.heap.size := ⟨_, rfl⟩
          have hne : g29 ≠ g35 := by rw [hg29]; omega
          have hgl : wr.heap.size ≤ g29 := by rw [hg29]; exact E10.size
          rw [← hg29] at R11 ⊢
          clear hg29
          obtain ⟨wk11, hw11⟩ : ∃ W, W = wk10.alloc (.cells #[] 78) := ⟨_, rfl⟩
          rw [← hw11] at E11 R11 L11 ⊢
          clear hw11
          refine hK.out _ _ (by first | exact SKP.out _ E11 | (dsimp only; exact SKP.out _ E11)) (fun hHeld => ?_)
          clear hK KK
          try simp only [Act.put, List.setIfInBounds_toArray, List.set_cons_zero, List.set_cons_succ]
          refine wpAnyH_ready (rs := [4]) (by kernel_rfl) (by simp) ?_
          refine AllReadyH.cons (o := { dst := some 76, op := _, type := _, pos := _, after := _, guard := _ }) rfl (fun KK hK => ?_) AllReadyH.nil
          refine step_src3 (by rfl) (.tmp 72) (.tmp 75) 28 (by rfl) wr.heap.size 78 i0 _ Try.underlying28 hi hz0 hz1 hz2 rfl _ 0 [] (by rfl) R11 _ 0 (z3.take (0 * 3)) (by rfl) (HT.out.ext E11) (by omega) E11.size ?_
          intro v12 wk12 R12 G12
          have E12 : Ext wr wk12 := Ext.of_grownAt E11 G12 (fun q hq => (R11.lt q hq).1)
          have L12 := introw_far3 L11 G12 (by simp [Value.ownBlock]; omega)
          refine hK.out _ _ (by first | exact SKP.out _ E12 | (dsimp only; exact SKP.out _ E12)) (fun hHeld => ?_)
          clear hK KK
          try simp only [Act.put, List.setIfInBounds_toArray, List.set_cons_zero, List.set_cons_succ]
          refine wpAnyH_ready (rs := [7]) (by kernel_rfl) (by simp) ?_
          refine AllReadyH.cons (o := { dst := some 79, op := _, type := _, pos := _, after := _, guard := _ }) rfl (fun KK hK => ?_) AllReadyH.nil
          refine step_src3 (by rfl) (.tmp 76) (.tmp 78) 28 (by rfl) wr.heap.size 78 i0 _ Try.underlying28 hi hz0 hz1 hz2 rfl _ (0 + 0) _ (by rfl) R12 _ 1 [b0, b1, b2] (by rfl) L12 (by omega) E12.size ?_
          intro v13 wk13 R13 G13
          have E13 : Ext wr wk13 := Ext.of_grownAt E12 G13 (fun q hq => (R12.lt q hq).1)
          refine hK.out _ _ (by first | exact SKP.out _ E13 | (dsimp only; exact SKP.out _ E13)) (fun hHeld => ?_)
          clear hK KK
          try simp only [Act.put, List.setIfInBounds_toArray, List.set_cons_zero, List.set_cons_succ]
          refine wpAnyH_ready (rs := [11]) (by kernel_rfl) (by simp) ?_
          refine AllReadyH.cons (o := { dst := some 83, op := _, type := _, pos := _, after := _, guard := _ }) rfl (fun KK hK => ?_) AllReadyH.nil
          refine step_src3 (by rfl) (.tmp 79) (.tmp 82) 28 (by rfl) wr.heap.size 78 i0 _ Try.underlying28 hi hz0 hz1 hz2 rfl _ (0 + 0 + 1) _ (by rfl) R13 _ (K.length - 0) (z3.drop (0 * 3)) (by rfl) (HD.out.ext E13) (by omega) E13.size ?_
          intro v14 wk14 R14 G14
          have E14 : Ext wr wk14 := Ext.of_grownAt E13 G14 (fun q hq => (R13.lt q hq).1)
          refine hK.out _ _ (by first | exact SKP.out _ E14 | (dsimp only; exact SKP.out _ E14)) (fun hHeld => ?_)
          clear hK KK
          try simp only [Act.put, List.setIfInBounds_toArray, List.set_cons_zero, List.set_cons_succ]
          refine wpAnyH_take (i := 12) (oi := { dst := some 4, op := _, type := _, pos := _, after := _, guard := _ }) (v := ?_) rfl (by kernel_rfl) (by kernel_rfl) (by kernel_rfl) (fun _ _ _ h => h) (Or.inl ⟨by rfl, ?_⟩) (by assumption) ?_
          rotate_left
          · (intro w hSw; (try dsimp only at hSw); go_simp) <;> (first | done | with_reducible rfl | rfl)
          try simp only [Act.put, List.setIfInBounds_toArray, List.set_cons_zero, List.set_cons_succ]
          refine wpAnyH_done (by kernel_rfl) ?_ _
          refine NoPanic.normal ?_
          go_wp2_with (fail)
          go_ret
          refine ⟨_, rfl, ?_, EW.trans E14⟩
          have e1 : (addR z k (xl, xa, xb)).length = 0 + 0 + 1 + (K.length - 0) := by rw [HAD.out]; simp; omega
          have e2 : (flat (addR z k (xl, xa, xb))).map (Value.int .i64) = [] ++ (z3.take (0 * 3)).map (Value.int .i64) ++ [b0, b1, b2].map (Value.int .i64) ++ (z3.drop (0 * 3)).map (Value.int .i64) := by rw [HAD.out, HZ3.out, flat_take, flat_drop, flat_mid]; simp
          rw [e1, e2]
          exact row_mono R14 EW.size
      · subst hv4
        clear hrow
        have hc4 : c4 ≤ 9223372036854775807 := by have := hg4d; unfold maxLen at this; omega
        have hkp : K.length ≤ c4 := hg4c
        have hmc : (p : Int) ≤ c4 := by omega
        have hmk2 : (p : Int) ≤ K.length := by omega
        have hm00 : (0 : Int) ≤ (p : Int) := Int.natCast_nonneg _
        by_cases hcm4 : c4 = p
        · obtain rfl : p = c4 := hcm4.symm
          have EW : Ext w wr := hE
          have EB : Ext wr wr := Ext.refl _
          have SKP := hid (fun (W : World) (hW : Ext wr W) => show W.cell? ⟨gx, 0, none⟩ = some (.int .i64 b0) ∧ W.cell? ⟨gx, 1, none⟩ = some (.int .i64 b1) ∧ W.cell? ⟨gx, 2, none⟩ = some (.int .i64 b2) from ⟨(HBOX.out.ext hW).1, (HBOX.out.ext hW).2.1, (HBOX.out.ext hW).2.2.1⟩)
          go_wp2_with (fail)
          have HT := hid (show IntRow .i64 3 wr (.slice (some ⟨g4, 0, none⟩) p p) p (z3.take (p * 3)) from take3 HR0.out hmk)
          have HD := hid (show IntRow .i64 3 wr (.slice (some ⟨g4, 0, none⟩) 0 0) (K.length - p) (z3.drop (p * 3)) from by rw [show K.length - p = 0 by omega, show z3.drop (p * 3) = [] from List.drop_eq_nil_of_le (by omega)]; exact none3 _ _ _ (Nat.zero_le _))
          refine wp_region_noPanic ?_
          refine wp_region_held_drew (S := (fun W => W.cell? ⟨gx, 0, none⟩ = some (.int .i64 b0) ∧ W.cell? ⟨gx, 1, none⟩ = some (.int .i64 b1) ∧ W.cell? ⟨gx, 2, none⟩ = some (.int .i64 b2))) (by kernel_rfl) ?_ (fun hHeld => ?_)
          · first | exact SKP.out _ (EB.drew) | (dsimp only; exact SKP.out _ (EB.drew))
          have ED := EB.drew
          generalize wr.drew = wd at *
          refine wpAnyH_take (i := 1) (oi := { dst := some 73, op := _, type := _, pos := _, after := _, guard := _ }) (v := ?_) rfl (by kernel_rfl) (by kernel_rfl) (by kernel_rfl) (fun _ _ _ h => h) (Or.inl ⟨by rfl, ?_⟩) (by assumption) ?_
          rotate_left
          · (intro w hSw; (try dsimp only at hSw); go_simp) <;> (first | done | with_reducible rfl | rfl)
          try simp only [Act.put, List.setIfInBounds_toArray, List.set_cons_zero, List.set_cons_succ]
          refine wpAnyH_take (i := 2) (oi := { dst := some 74, op := _, type := _, pos := _, after := _, guard := _ }) (v := ?_) rfl (by kernel_rfl) (by kernel_rfl) (by kernel_rfl) (fun _ _ _ h => h) (Or.inl ⟨by rfl, ?_⟩) (by assumption) ?_
          rotate_left
          · (intro w hSw; (try dsimp only at hSw); go_simp) <;> (first | done | with_reducible rfl | rfl)
          try simp only [Act.put, List.setIfInBounds_toArray, List.set_cons_zero, List.set_cons_succ]
          refine wpAnyH_take (i := 3) (oi := { dst := some 75, op := _, type := _, pos := _, after := _, guard := _ }) (v := ?_) rfl (by kernel_rfl) (by kernel_rfl) (by kernel_rfl) (fun _ _ _ h => h) (Or.inl ⟨by rfl, ?_⟩) (by assumption) ?_
          rotate_left
          · (intro w hSw; (try dsimp only at hSw); go_simp) <;> (first | done | with_reducible rfl | rfl)
          try simp only [Act.put, List.setIfInBounds_toArray, List.set_cons_zero, List.set_cons_succ]
          refine wpAnyH_take (i := 5) (oi := { dst := some 77, op := _, type := _, pos := _, after := _, guard := _ }) (v := ?_) rfl (by kernel_rfl) (by kernel_rfl) (by kernel_rfl) (fun _ _ _ h => h) (Or.inl ⟨by rfl, ?_⟩) (by assumption) ?_
          rotate_left
          · (intro w hSw; (try dsimp only at hSw); go_simp) <;> (first | done | with_reducible rfl | rfl)
          try simp only [Act.put, List.setIfInBounds_toArray, List.set_cons_zero, List.set_cons_succ]
          refine wpAnyH_take (i := 8) (oi := { dst := some 80, op := _, type := _, pos := _, after := _, guard := _ }) (v := ?_) rfl (by kernel_rfl) (by kernel_rfl) (by kernel_rfl) (fun _ _ _ h => h) (Or.inl ⟨by rfl, ?_⟩) (by assumption) ?_
          rotate_left
          · (intro w hSw; (try dsimp only at hSw); go_simp) <;> (first | done | with_reducible rfl | rfl)
          try simp only [Act.put, List.setIfInBounds_toArray, List.set_cons_zero, List.set_cons_succ]
          refine wpAnyH_take (i := 9) (oi := { dst := some 81, op := _, type := _, pos := _, after := _, guard := _ }) (v := ?_) rfl (by kernel_rfl) (by kernel_rfl) (by kernel_rfl) (fun _ _ _ h => h) (Or.inl ⟨by rfl, ?_⟩) (by assumption) ?_
          rotate_left
          · (intro w hSw; (try dsimp only at hSw); go_simp) <;> (first | done | with_reducible rfl | rfl)
          try simp only [Act.put, List.setIfInBounds_toArray, List.set_cons_zero, List.set_cons_succ]
          refine wpAnyH_take (i := 10) (oi := { dst := some 82, op := _, type := _, pos := _, after := _, guard := _ }) (v := ?_) rfl (by kernel_rfl) (by kernel_rfl) (by kernel_rfl) (fun _ _ _ h => h) (Or.inl ⟨by rfl, ?_⟩) (by assumption) ?_
          rotate_left
          · (intro w hSw; (try dsimp only at hSw); go_simp) <;> (first | done | with_reducible rfl | rfl)
          try simp only [Act.put, List.setIfInBounds_toArray, List.set_cons_zero, List.set_cons_succ]
          refine wpAnyH_ready (rs := [0, 6]) (by kernel_rfl) (by simp) ?_
          refine AllReadyH.cons (o := { dst := some 72, op := _, type := _, pos := _, after := _, guard := _ }) rfl (fun KK hK => ?_) (AllReadyH.cons (o := { dst := some 78, op := _, type := _, pos := _, after := _, guard := _ }) rfl (fun KK hK => ?_) AllReadyH.nil)
          · go_simp
            have E1 : Ext wr (wd.alloc (.cells #[] 78)) := Ext.alloc ED _
            have R1 := row_mono (row_empty3 wd 78) (show wr.heap.size ≤ wd.heap.size from ED.size)
            obtain ⟨g29, hg29⟩ : ∃ q, q = wd.heap.size := ⟨_, rfl⟩
            have hgl : wr.heap.size ≤ g29 := by rw [hg29]; exact ED.size
            have hlt29 : g29 < (wd.alloc (.cells #[] 78)).heap.size := by rw [hg29]; simp
            rw [← hg29] at R1 ⊢
            clear hg29
            obtain ⟨wk1, hw1⟩ : ∃ W, W = wd.alloc (.cells #[] 78) := ⟨_, rfl⟩
            rw [← hw1] at E1 R1 hlt29 ⊢
            clear hw1
            refine hK.out _ _ (by first | exact SKP.out _ E1 | (dsimp only; exact SKP.out _ E1)) (fun hHeld => ?_)
            clear hK KK
            try simp only [Act.put, List.setIfInBounds_toArray, List.set_cons_zero, List.set_cons_succ]
            refine wpAnyH_ready (rs := [4, 6]) (by kernel_rfl) (by simp) ?_
            refine AllReadyH.cons (o := { dst := some 76, op := _, type := _, pos := _, after := _, guard := _ }) rfl (fun KK hK => ?_) (AllReadyH.cons (o := { dst := some 78, op := _, type := _, pos := _, after := _, guard := _ }) rfl (fun KK hK => ?_) AllReadyH.nil)
            · refine step_src3 (by rfl) (.tmp 72) (.tmp 75) 28 (by rfl) wr.heap.size 78 i0 _ Try.underlying28 hi hz0 hz1 hz2 rfl _ 0 [] (by rfl) R1 _ p (z3.take (p * 3)) (by rfl) (HT.out.ext E1) (by omega) E1.size ?_
              intro v2 wk2 R2 G2
              have E2 : Ext wr wk2 := Ext.of_grownAt E1 G2 (fun q hq => (R1.lt q hq).1)
              refine hK.out _ _ (by first | exact SKP.out _ E2 | (dsimp only; exact SKP.out _ E2)) (fun hHeld => ?_)
              clear hK KK
              try simp only [Act.put, List.setIfInBounds_toArray, List.set_cons_zero, List.set_cons_succ]
              refine wpAnyH_ready (rs := [6]) (by kernel_rfl) (by simp) ?_
              refine AllReadyH.cons (o := { dst := some 78, op := _, type := _, pos := _, after := _, guard := _ }) rfl (fun KK hK => ?_) AllReadyH.nil
              go_simp
              have E3 : Ext wr (wk2.alloc (.cells #[.int .i64 b0, .int .i64 b1, .int .i64 b2] 78)) := Ext.alloc E2 _
              have L3 := lit3_row wk2 b0 b1 b2 78 hb0 hb1 hb2
              have R3 := row_ext R2 ((Ext.refl wk2).alloc (.cells #[.int .i64 b0, .int .i64 b1, .int .i64 b2] 78))
              obtain ⟨g35, hg35⟩ : ∃ q, q = wk2.heap.size := ⟨_, rfl⟩
              rw [← hg35] at L3 ⊢
              clear hg35
              obtain ⟨wk3, hw3⟩ : ∃ W, W = wk2.alloc (.cells #[.int .i64 b0, .int .i64 b1, .int .i64 b2] 78) := ⟨_, rfl⟩
              rw [← hw3] at E3 R3 L3 ⊢
              clear hw3
              refine hK.out _ _ (by first | exact SKP.out _ E3 | (dsimp only; exact SKP.out _ E3)) (fun hHeld => ?_)
              clear hK KK
              try simp only [Act.put, List.setIfInBounds_toArray, List.set_cons_zero, List.set_cons_succ]
              refine wpAnyH_ready (rs := [7]) (by kernel_rfl) (by simp) ?_
              refine AllReadyH.cons (o := { dst := some 79, op := _, type := _, pos := _, after := _, guard := _ }) rfl (fun KK hK => ?_) AllReadyH.nil
              refine step_src3 (by rfl) (.tmp 76) (.tmp 78) 28 (by rfl) wr.heap.size 78 i0 _ Try.underlying28 hi hz0 hz1 hz2 rfl _ (0 + p) _ (by rfl) R3 _ 1 [b0, b1, b2] (by rfl) L3 (by omega) E3.size ?_
              intro v4 wk4 R4 G4
              have E4 : Ext wr wk4 := Ext.of_grownAt E3 G4 (fun q hq => (R3.lt q hq).1)
              refine hK.out _ _ (by first | exact SKP.out _ E4 | (dsimp only; exact SKP.out _ E4)) (fun hHeld => ?_)
              clear hK KK
              try simp only [Act.put, List.setIfInBounds_toArray, List.set_cons_zero, List.set_cons_succ]
              refine wpAnyH_ready (rs := [11]) (by kernel_rfl) (by simp) ?_
              refine AllReadyH.cons (o := { dst := some 83, op := _, type := _, pos := _, after := _, guard := _ }) rfl (fun KK hK => ?_) AllReadyH.nil
              refine step_src3 (by rfl) (.tmp 79) (.tmp 82) 28 (by rfl) wr.heap.size 78 i0 _ Try.underlying28 hi hz0 hz1 hz2 rfl _ (0 + p + 1) _ (by rfl) R4 _ (K.length - p) (z3.drop (p * 3)) (by rfl) (HD.out.ext E4) (by omega) E4.size ?_
              intro v5 wk5 R5 G5
              have E5 : Ext wr wk5 := Ext.of_grownAt E4 G5 (fun q hq => (R4.lt q hq).1)
              refine hK.out _ _ (by first | exact SKP.out _ E5 | (dsimp only; exact SKP.out _ E5)) (fun hHeld => ?_)
              clear hK KK
              try simp only [Act.put, List.setIfInBounds_toArray, List.set_cons_zero, List.set_cons_succ]
              refine wpAnyH_take (i := 12) (oi := { dst := some 4, op := _, type := _, pos := _, after := _, guard := _ }) (v := ?_) rfl (by kernel_rfl) (by kernel_rfl) (by kernel_rfl) (fun _ _ _ h => h) (Or.inl ⟨by rfl, ?_⟩) (by assumption) ?_
              rotate_left
              · (intro w hSw; (try dsimp only at hSw); go_simp) <;> (first | done | with_reducible rfl | rfl)
              try simp only [Act.put, List.setIfInBounds_toArray, List.set_cons_zero, List.set_cons_succ]
              refine wpAnyH_done (by kernel_rfl) ?_ _
              refine NoPanic.normal ?_
              go_wp2_with (fail)
              go_ret
              refine ⟨_, rfl, ?_, EW.trans E5⟩
              have e1 : (addR z k (xl, xa, xb)).length = 0 + p + 1 + (K.length - p) := by rw [HAD.out]; simp; omega
              have e2 : (flat (addR z k (xl, xa, xb))).map (Value.int .i64) = [] ++ (z3.take (p * 3)).map (Value.int .i64) ++ [b0, b1, b2].map (Value.int .i64) ++ (z3.drop (p * 3)).map (Value.int .i64) := by rw [HAD.out, HZ3.out, flat_take, flat_drop, flat_mid]; simp
              rw [e1, e2]
              exact row_mono R5 EW.size
            · go_simp
              have E6 : Ext wr (wk1.alloc (.cells #[.int .i64 b0, .int .i64 b1, .int .i64 b2] 78)) := Ext.alloc E1 _
              have L6 := lit3_row wk1 b0 b1 b2 78 hb0 hb1 hb2
              have R6 := row_ext R1 ((Ext.refl wk1).alloc (.cells #[.int .i64 b0, .int .i64 b1, .int .i64 b2] 78))
              obtain ⟨g35, hg35⟩ : ∃ q, q = wk1.heap.size := ⟨_, rfl⟩
              have hne : g29 ≠ g35 := by rw [hg35]; omega
              rw [← hg35] at L6 ⊢
              clear hg35
              obtain ⟨wk6, hw6⟩ : ∃ W, W = wk1.alloc (.cells #[.int .i64 b0, .int .i64 b1, .int .i64 b2] 78) := ⟨_, rfl⟩
              rw [← hw6] at E6 R6 L6 ⊢
              clear hw6
              refine hK.out _ _ (by first | exact SKP.out _ E6 | (dsimp only; exact SKP.out _ E6)) (fun hHeld => ?_)
              clear hK KK
              try simp only [Act.put, List.setIfInBounds_toArray, List.set_cons_zero, List.set_cons_succ]
              refine wpAnyH_ready (rs := [4]) (by kernel_rfl) (by simp) ?_
              refine AllReadyH.cons (o := { dst := some 76, op := _, type := _, pos := _, after := _, guard := _ }) rfl (fun KK hK => ?_) AllReadyH.nil
              refine step_src3 (by rfl) (.tmp 72) (.tmp 75) 28 (by rfl) wr.heap.size 78 i0 _ Try.underlying28 hi hz0 hz1 hz2 rfl _ 0 [] (by rfl) R6 _ p (z3.take (p * 3)) (by rfl) (HT.out.ext E6) (by omega) E6.size ?_
              intro v7 wk7 R7 G7
              have E7 : Ext wr wk7 := Ext.of_grownAt E6 G7 (fun q hq => (R6.lt q hq).1)
              have L7 := introw_far3 L6 G7 (by simp [Value.ownBlock]; omega)
              refine hK.out _ _ (by first | exact SKP.out _ E7 | (dsimp only; exact SKP.out _ E7)) (fun hHeld => ?_)
              clear hK KK
              try simp only [Act.put, List.setIfInBounds_toArray, List.set_cons_zero, List.set_cons_succ]
              refine wpAnyH_ready (rs := [7]) (by kernel_rfl) (by simp) ?_
              refine AllReadyH.cons (o := { dst := some 79, op := _, type := _, pos := _, after := _, guard := _ }) rfl (fun KK hK => ?_) AllReadyH.nil
              refine step_src3 (by rfl) (.tmp 76) (.tmp 78) 28 (by rfl) wr.heap.size 78 i0 _ Try.underlying28 hi hz0 hz1 hz2 rfl _ (0 + p) _ (by rfl) R7 _ 1 [b0, b1, b2] (by rfl) L7 (by omega) E7.size ?_
              intro v8 wk8 R8 G8
              have E8 : Ext wr wk8 := Ext.of_grownAt E7 G8 (fun q hq => (R7.lt q hq).1)
              refine hK.out _ _ (by first | exact SKP.out _ E8 | (dsimp only; exact SKP.out _ E8)) (fun hHeld => ?_)
              clear hK KK
              try simp only [Act.put, List.setIfInBounds_toArray, List.set_cons_zero, List.set_cons_succ]
              refine wpAnyH_ready (rs := [11]) (by kernel_rfl) (by simp) ?_
              refine AllReadyH.cons (o := { dst := some 83, op := _, type := _, pos := _, after := _, guard := _ }) rfl (fun KK hK => ?_) AllReadyH.nil
              refine step_src3 (by rfl) (.tmp 79) (.tmp 82) 28 (by rfl) wr.heap.size 78 i0 _ Try.underlying28 hi hz0 hz1 hz2 rfl _ (0 + p + 1) _ (by rfl) R8 _ (K.length - p) (z3.drop (p * 3)) (by rfl) (HD.out.ext E8) (by omega) E8.size ?_
              intro v9 wk9 R9 G9
              have E9 : Ext wr wk9 := Ext.of_grownAt E8 G9 (fun q hq => (R8.lt q hq).1)
              refine hK.out _ _ (by first | exact SKP.out _ E9 | (dsimp only; exact SKP.out _ E9)) (fun hHeld => ?_)
              clear hK KK
              try simp only [Act.put, List.setIfInBounds_toArray, List.set_cons_zero, List.set_cons_succ]
              refine wpAnyH_take (i := 12) (oi := { dst := some 4, op := _, type := _, pos := _, after := _, guard := _ }) (v := ?_) rfl (by kernel_rfl) (by kernel_rfl) (by kernel_rfl) (fun _ _ _ h => h) (Or.inl ⟨by rfl, ?_⟩) (by assumption) ?_
              rotate_left
              · (intro w hSw; (try dsimp only at hSw); go_simp) <;> (first | done | with_reducible rfl | rfl)
              try simp only [Act.put, List.setIfInBounds_toArray, List.set_cons_zero, List.set_cons_succ]
              refine wpAnyH_done (by kernel_rfl) ?_ _
              refine NoPanic.normal ?_
              go_wp2_with (fail)
              go_ret
              refine ⟨_, rfl, ?_, EW.trans E9⟩
              have e1 : (addR z k (xl, xa, xb)).length = 0 + p + 1 + (K.length - p) := by rw [HAD.out]; simp; omega
              have e2 : (flat (addR z k (xl, xa, xb))).map (Value.int .i64) = [] ++ (z3.take (p * 3)).map (Value.int .i64) ++ [b0, b1, b2].map (Value.int .i64) ++ (z3.drop (p * 3)).map (Value.int .i64) := by rw [HAD.out, HZ3.out, flat_take, flat_drop, flat_mid]; simp
              rw [e1, e2]
              exact row_mono R9 EW.size
          · go_simp
            have E10 : Ext wr (wd.alloc (.cells #[.int .i64 b0, .int .i64 b1, .int .i64 b2] 78)) := Ext.alloc ED _
            have L10 := lit3_row wd b0 b1 b2 78 hb0 hb1 hb2
            obtain ⟨g35, hg35⟩ : ∃ q, q = wd.heap.size := ⟨_, rfl⟩
            have hlt35 : g35 < (wd.alloc (.cells #[.int .i64 b0, .int .i64 b1, .int .i64 b2] 78)).heap.size := by rw [hg35]; simp
            rw [← hg35] at L10 ⊢
            clear hg35
            obtain ⟨wk10, hw10⟩ : ∃ W, W = wd.alloc (.cells #[.int .i64 b0, .int .i64 b1, .int .i64 b2] 78) := ⟨_, rfl⟩
            rw [← hw10] at E10 L10 hlt35 ⊢
            clear hw10
            refine hK.out _ _ (by first | exact SKP.out _ E10 | (dsimp only; exact SKP.out _ E10)) (fun hHeld => ?_)
            clear hK KK
            try simp only [Act.put, List.setIfInBounds_toArray, List.set_cons_zero, List.set_cons_succ]
            refine wpAnyH_ready (rs := [0]) (by kernel_rfl) (by simp) ?_
            refine AllReadyH.cons (o := { dst := some 72, op := _, type := _, pos := _, after := _, guard := _ }) rfl (fun KK hK => ?_) AllReadyH.nil
            go_simp
            have E11 : Ext wr (wk10.alloc (.cells #[] 78)) := Ext.alloc E10 _
            have R11 := row_mono (row_empty3 wk10 78) (show wr.heap.size ≤ wk10.heap.size from E10.size)
            have L11 := IntRow.ext L10 ((Ext.refl wk10).alloc (.cells #[] 78))
            obtain ⟨g29, hg29⟩ : ∃ q, q = wk10.heap.size := ⟨_, rfl⟩
            have hne : g29 ≠ g35 := by rw [hg29]; omega
            have hgl : wr.heap.size ≤ g29 := by rw [hg29]; exact E10.size
            rw [← hg29] at R11 ⊢
            clear hg29
            obtain ⟨wk11, hw11⟩ : ∃ W, W = wk10.alloc (.cells #[] 78) := ⟨_, rfl⟩
            rw [← hw11] at E11 R11 L11 ⊢
            clear hw11
            refine hK.out _ _ (by first | exact SKP.out _ E11 | (dsimp only; exact SKP.out _ E11)) (fun hHeld => ?_)
            clear hK KK
            try simp only [Act.put, List.setIfInBounds_toArray, List.set_cons_zero, List.set_cons_succ]
            refine wpAnyH_ready (rs := [4]) (by kernel_rfl) (by simp) ?_
            refine AllReadyH.cons (o := { dst := some 76, op := _, type := _, pos := _, after := _, guard := _ }) rfl (fun KK hK => ?_) AllReadyH.nil
            refine step_src3 (by rfl) (.tmp 72) (.tmp 75) 28 (by rfl) wr.heap.size 78 i0 _ Try.underlying28 hi hz0 hz1 hz2 rfl _ 0 [] (by rfl) R11 _ p (z3.take (p * 3)) (by rfl) (HT.out.ext E11) (by omega) E11.size ?_
            intro v12 wk12 R12 G12
            have E12 : Ext wr wk12 := Ext.of_grownAt E11 G12 (fun q hq => (R11.lt q hq).1)
            have L12 := introw_far3 L11 G12 (by simp [Value.ownBlock]; omega)
            refine hK.out _ _ (by first | exact SKP.out _ E12 | (dsimp only; exact SKP.out _ E12)) (fun hHeld => ?_)
            clear hK KK
            try simp only [Act.put, List.setIfInBounds_toArray, List.set_cons_zero, List.set_cons_succ]
            refine wpAnyH_ready (rs := [7]) (by kernel_rfl) (by simp) ?_
            refine AllReadyH.cons (o := { dst := some 79, op := _, type := _, pos := _, after := _, guard := _ }) rfl (fun KK hK => ?_) AllReadyH.nil
            refine step_src3 (by rfl) (.tmp 76) (.tmp 78) 28 (by rfl) wr.heap.size 78 i0 _ Try.underlying28 hi hz0 hz1 hz2 rfl _ (0 + p) _ (by rfl) R12 _ 1 [b0, b1, b2] (by rfl) L12 (by omega) E12.size ?_
            intro v13 wk13 R13 G13
            have E13 : Ext wr wk13 := Ext.of_grownAt E12 G13 (fun q hq => (R12.lt q hq).1)
            refine hK.out _ _ (by first | exact SKP.out _ E13 | (dsimp only; exact SKP.out _ E13)) (fun hHeld => ?_)
            clear hK KK
            try simp only [Act.put, List.setIfInBounds_toArray, List.set_cons_zero, List.set_cons_succ]
            refine wpAnyH_ready (rs := [11]) (by kernel_rfl) (by simp) ?_
            refine AllReadyH.cons (o := { dst := some 83, op := _, type := _, pos := _, after := _, guard := _ }) rfl (fun KK hK => ?_) AllReadyH.nil
            refine step_src3 (by rfl) (.tmp 79) (.tmp 82) 28 (by rfl) wr.heap.size 78 i0 _ Try.underlying28 hi hz0 hz1 hz2 rfl _ (0 + p + 1) _ (by rfl) R13 _ (K.length - p) (z3.drop (p * 3)) (by rfl) (HD.out.ext E13) (by omega) E13.size ?_
            intro v14 wk14 R14 G14
            have E14 : Ext wr wk14 := Ext.of_grownAt E13 G14 (fun q hq => (R13.lt q hq).1)
            refine hK.out _ _ (by first | exact SKP.out _ E14 | (dsimp only; exact SKP.out _ E14)) (fun hHeld => ?_)
            clear hK KK
            try simp only [Act.put, List.setIfInBounds_toArray, List.set_cons_zero, List.set_cons_succ]
            refine wpAnyH_take (i := 12) (oi := { dst := some 4, op := _, type := _, pos := _, after := _, guard := _ }) (v := ?_) rfl (by kernel_rfl) (by kernel_rfl) (by kernel_rfl) (fun _ _ _ h => h) (Or.inl ⟨by rfl, ?_⟩) (by assumption) ?_
            rotate_left
            · (intro w hSw; (try dsimp only at hSw); go_simp) <;> (first | done | with_reducible rfl | rfl)
            try simp only [Act.put, List.setIfInBounds_toArray, List.set_cons_zero, List.set_cons_succ]
            refine wpAnyH_done (by kernel_rfl) ?_ _
            refine NoPanic.normal ?_
            go_wp2_with (fail)
            go_ret
            refine ⟨_, rfl, ?_, EW.trans E14⟩
            have e1 : (addR z k (xl, xa, xb)).length = 0 + p + 1 + (K.length - p) := by rw [HAD.out]; simp; omega
            have e2 : (flat (addR z k (xl, xa, xb))).map (Value.int .i64) = [] ++ (z3.take (p * 3)).map (Value.int .i64) ++ [b0, b1, b2].map (Value.int .i64) ++ (z3.drop (p * 3)).map (Value.int .i64) := by rw [HAD.out, HZ3.out, flat_take, flat_drop, flat_mid]; simp
            rw [e1, e2]
            exact row_mono R14 EW.size
        · have hcmb : (c4 == p) = false := by simpa using hcm4
          have EW : Ext w wr := hE
          have EB : Ext wr wr := Ext.refl _
          have SKP := hid (fun (W : World) (hW : Ext wr W) => show W.cell? ⟨gx, 0, none⟩ = some (.int .i64 b0) ∧ W.cell? ⟨gx, 1, none⟩ = some (.int .i64 b1) ∧ W.cell? ⟨gx, 2, none⟩ = some (.int .i64 b2) from ⟨(HBOX.out.ext hW).1, (HBOX.out.ext hW).2.1, (HBOX.out.ext hW).2.2.1⟩)
          go_wp2_with (fail)
          have HT := hid (show IntRow .i64 3 wr (.slice (some ⟨g4, 0, none⟩) p c4) p (z3.take (p * 3)) from take3 HR0.out hmk)
          have HD := hid (show IntRow .i64 3 wr (.slice (some ⟨g4, p * 3, none⟩) (K.length - p) (c4 - p)) (K.length - p) (z3.drop (p * 3)) from by have := drop3 HR0.out hmk; simpa using this)
          refine wp_region_noPanic ?_
          refine wp_region_held_drew (S := (fun W => W.cell? ⟨gx, 0, none⟩ = some (.int .i64 b0) ∧ W.cell? ⟨gx, 1, none⟩ = some (.int .i64 b1) ∧ W.cell? ⟨gx, 2, none⟩ = some (.int .i64 b2))) (by kernel_rfl) ?_ (fun hHeld => ?_)
          · first | exact SKP.out _ (EB.drew) | (dsimp only; exact SKP.out _ (EB.drew))
          have ED := EB.drew
          generalize wr.drew = wd at *
          refine wpAnyH_take (i := 1) (oi := { dst := some 73, op := _, type := _, pos := _, after := _, guard := _ }) (v := ?_) rfl (by kernel_rfl) (by kernel_rfl) (by kernel_rfl) (fun _ _ _ h => h) (Or.inl ⟨by rfl, ?_⟩) (by assumption) ?_
          rotate_left
          · (intro w hSw; (try dsimp only at hSw); go_simp) <;> (first | done | with_reducible rfl | rfl)
          try simp only [Act.put, List.setIfInBounds_toArray, List.set_cons_zero, List.set_cons_succ]
          refine wpAnyH_take (i := 2) (oi := { dst := some 74, op := _, type := _, pos := _, after := _, guard := _ }) (v := ?_) rfl (by kernel_rfl) (by kernel_rfl) (by kernel_rfl) (fun _ _ _ h => h) (Or.inl ⟨by rfl, ?_⟩) (by assumption) ?_
          rotate_left
          · (intro w hSw; (try dsimp only at hSw); go_simp) <;> (first | done | with_reducible rfl | rfl)
          try simp only [Act.put, List.setIfInBounds_toArray, List.set_cons_zero, List.set_cons_succ]
          refine wpAnyH_take (i := 3) (oi := { dst := some 75, op := _, type := _, pos := _, after := _, guard := _ }) (v := ?_) rfl (by kernel_rfl) (by kernel_rfl) (by kernel_rfl) (fun _ _ _ h => h) (Or.inl ⟨by rfl, ?_⟩) (by assumption) ?_
          rotate_left
          · (intro w hSw; (try dsimp only at hSw); go_simp) <;> (first | done | with_reducible rfl | rfl)
          try simp only [Act.put, List.setIfInBounds_toArray, List.set_cons_zero, List.set_cons_succ]
          refine wpAnyH_take (i := 5) (oi := { dst := some 77, op := _, type := _, pos := _, after := _, guard := _ }) (v := ?_) rfl (by kernel_rfl) (by kernel_rfl) (by kernel_rfl) (fun _ _ _ h => h) (Or.inl ⟨by rfl, ?_⟩) (by assumption) ?_
          rotate_left
          · (intro w hSw; (try dsimp only at hSw); go_simp) <;> (first | done | with_reducible rfl | rfl)
          try simp only [Act.put, List.setIfInBounds_toArray, List.set_cons_zero, List.set_cons_succ]
          refine wpAnyH_take (i := 8) (oi := { dst := some 80, op := _, type := _, pos := _, after := _, guard := _ }) (v := ?_) rfl (by kernel_rfl) (by kernel_rfl) (by kernel_rfl) (fun _ _ _ h => h) (Or.inl ⟨by rfl, ?_⟩) (by assumption) ?_
          rotate_left
          · (intro w hSw; (try dsimp only at hSw); go_simp) <;> (first | done | with_reducible rfl | rfl)
          try simp only [Act.put, List.setIfInBounds_toArray, List.set_cons_zero, List.set_cons_succ]
          refine wpAnyH_take (i := 9) (oi := { dst := some 81, op := _, type := _, pos := _, after := _, guard := _ }) (v := ?_) rfl (by kernel_rfl) (by kernel_rfl) (by kernel_rfl) (fun _ _ _ h => h) (Or.inl ⟨by rfl, ?_⟩) (by assumption) ?_
          rotate_left
          · (intro w hSw; (try dsimp only at hSw); go_simp) <;> (first | done | with_reducible rfl | rfl)
          try simp only [Act.put, List.setIfInBounds_toArray, List.set_cons_zero, List.set_cons_succ]
          refine wpAnyH_take (i := 10) (oi := { dst := some 82, op := _, type := _, pos := _, after := _, guard := _ }) (v := ?_) rfl (by kernel_rfl) (by kernel_rfl) (by kernel_rfl) (fun _ _ _ h => h) (Or.inl ⟨by rfl, ?_⟩) (by assumption) ?_
          rotate_left
          · (intro w hSw; (try dsimp only at hSw); go_simp) <;> (first | done | with_reducible rfl | rfl)
          try simp only [Act.put, List.setIfInBounds_toArray, List.set_cons_zero, List.set_cons_succ]
          refine wpAnyH_ready (rs := [0, 6]) (by kernel_rfl) (by simp) ?_
          refine AllReadyH.cons (o := { dst := some 72, op := _, type := _, pos := _, after := _, guard := _ }) rfl (fun KK hK => ?_) (AllReadyH.cons (o := { dst := some 78, op := _, type := _, pos := _, after := _, guard := _ }) rfl (fun KK hK => ?_) AllReadyH.nil)
          · go_simp
            have E1 : Ext wr (wd.alloc (.cells #[] 78)) := Ext.alloc ED _
            have R1 := row_mono (row_empty3 wd 78) (show wr.heap.size ≤ wd.heap.size from ED.size)
            obtain ⟨g29, hg29⟩ : ∃ q, q = wd.heap.size := ⟨_, rfl⟩
            have hgl : wr.heap.size ≤ g29 := by rw [hg29]; exact ED.size
            have hlt29 : g29 < (wd.alloc (.cells #[] 78)).heap.size := by rw [hg29]; simp
            rw [← hg29] at R1 ⊢
            clear hg29
            obtain ⟨wk1, hw1⟩ : ∃ W, W = wd.alloc (.cells #[] 78) := ⟨_, rfl⟩
            rw [← hw1] at E1 R1 hlt29 ⊢
            clear hw1
            refine hK.out _ _ (by first | exact SKP.out _ E1 | (dsimp only; exact SKP.out _ E1)) (fun hHeld => ?_)
            clear hK KK
            try simp only [Act.put, List.setIfInBounds_toArray, List.set_cons_zero, List.set_cons_succ]
            refine wpAnyH_ready (rs := [4, 6]) (by kernel_rfl) (by simp) ?_
            refine AllReadyH.cons (o := { dst := some 76, op := _, type := _, pos := _, after := _, guard := _ }) rfl (fun KK hK => ?_) (AllReadyH.cons (o := { dst := some 78, op := _, type := _, pos := _, after := _, guard := _ }) rfl (fun KK hK => ?_) AllReadyH.nil)
            · refine step_src3 (by rfl) (.tmp 72) (.tmp 75) 28 (by rfl) wr.heap.size 78 i0 _ Try.underlying28 hi hz0 hz1 hz2 rfl _ 0 [] (by rfl) R1 _ p (z3.take (p * 3)) (by rfl) (HT.out.ext E1) (by omega) E1.size ?_
              intro v2 wk2 R2 G2
              have E2 : Ext wr wk2 := Ext.of_grownAt E1 G2 (fun q hq => (R1.lt q hq).1)
              refine hK.out _ _ (by first | exact SKP.out _ E2 | (dsimp only; exact SKP.out _ E2)) (fun hHeld => ?_)
              clear hK KK
              try simp only [Act.put, List.setIfInBounds_toArray, List.set_cons_zero, List.set_cons_succ]
              refine wpAnyH_ready (rs := [6]) (by kernel_rfl) (by simp) ?_
              refine AllReadyH.cons (o := { dst := some 78, op := _, type := _, pos := _, after := _, guard := _ }) rfl (fun KK hK => ?_) AllReadyH.nil
              go_simp
              have E3 : Ext wr (wk2.alloc (.cells #[.int .i64 b0, .int .i64 b1, .int .i64 b2] 78)) := Ext.alloc E2 _
              have L3 := lit3_row wk2 b0 b1 b2 78 hb0 hb1 hb2
              have R3 := row_ext R2 ((Ext.refl wk2).alloc (.cells #[.int .i64 b0, .int .i64 b1, .int .i64 b2] 78))
              obtain ⟨g35, hg35⟩ : ∃ q, q = wk2.heap.size := ⟨_, rfl⟩
              rw [← hg35] at L3 ⊢
              clear hg35
              obtain ⟨wk3, hw3⟩ : ∃ W, W = wk2.alloc (.cells #[.int .i64 b0, .int .i64 b1, .int .i64 b2] 78) := ⟨_, rfl⟩
              rw [← hw3] at E3 R3 L3 ⊢
              clear hw3
              refine hK.out _ _ (by first | exact SKP.out _ E3 | (dsimp only; exact SKP.out _ E3)) (fun hHeld => ?_)
              clear hK KK
              try simp only [Act.put, List.setIfInBounds_toArray, List.set_cons_zero, List.set_cons_succ]
              refine wpAnyH_ready (rs := [7]) (by kernel_rfl) (by simp) ?_
              refine AllReadyH.cons (o := { dst := some 79, op := _, type := _, pos := _, after := _, guard := _ }) rfl (fun KK hK => ?_) AllReadyH.nil
              refine step_src3 (by rfl) (.tmp 76) (.tmp 78) 28 (by rfl) wr.heap.size 78 i0 _ Try.underlying28 hi hz0 hz1 hz2 rfl _ (0 + p) _ (by rfl) R3 _ 1 [b0, b1, b2] (by rfl) L3 (by omega) E3.size ?_
              intro v4 wk4 R4 G4
              have E4 : Ext wr wk4 := Ext.of_grownAt E3 G4 (fun q hq => (R3.lt q hq).1)
              refine hK.out _ _ (by first | exact SKP.out _ E4 | (dsimp only; exact SKP.out _ E4)) (fun hHeld => ?_)
              clear hK KK
              try simp only [Act.put, List.setIfInBounds_toArray, List.set_cons_zero, List.set_cons_succ]
              refine wpAnyH_ready (rs := [11]) (by kernel_rfl) (by simp) ?_
              refine AllReadyH.cons (o := { dst := some 83, op := _, type := _, pos := _, after := _, guard := _ }) rfl (fun KK hK => ?_) AllReadyH.nil
              refine step_src3 (by rfl) (.tmp 79) (.tmp 82) 28 (by rfl) wr.heap.size 78 i0 _ Try.underlying28 hi hz0 hz1 hz2 rfl _ (0 + p + 1) _ (by rfl) R4 _ (K.length - p) (z3.drop (p * 3)) (by rfl) (HD.out.ext E4) (by omega) E4.size ?_
              intro v5 wk5 R5 G5
              have E5 : Ext wr wk5 := Ext.of_grownAt E4 G5 (fun q hq => (R4.lt q hq).1)
              refine hK.out _ _ (by first | exact SKP.out _ E5 | (dsimp only; exact SKP.out _ E5)) (fun hHeld => ?_)
              clear hK KK
              try simp only [Act.put, List.setIfInBounds_toArray, List.set_cons_zero, List.set_cons_succ]
              refine wpAnyH_take (i := 12) (oi := { dst := some 4, op := _, type := _, pos := _, after := _, guard := _ }) (v := ?_) rfl (by kernel_rfl) (by kernel_rfl) (by kernel_rfl) (fun _ _ _ h => h) (Or.inl ⟨by rfl, ?_⟩) (by assumption) ?_
              rotate_left
              · (intro w hSw; (try dsimp only at hSw); go_simp) <;> (first | done | with_reducible rfl | rfl)
              try simp only [Act.put, List.setIfInBounds_toArray, List.set_cons_zero, List.set_cons_succ]
              refine wpAnyH_done (by kernel_rfl) ?_ _
              refine NoPanic.normal ?_
              go_wp2_with (fail)
              go_ret
              refine ⟨_, rfl, ?_, EW.trans E5⟩
              have e1 : (addR z k (xl, xa, xb)).length = 0 + p + 1 + (K.length - p) := by rw [HAD.out]; simp; omega
              have e2 : (flat (addR z k (xl, xa, xb))).map (Value.int .i64) = [] ++ (z3.take (p * 3)).map (Value.int .i64) ++ [b0, b1, b2].map (Value.int .i64) ++ (z3.drop (p * 3)).map (Value.int .i64) := by rw [HAD.out, HZ3.out, flat_take, flat_drop, flat_mid]; simp
              rw [e1, e2]
              exact row_mono R5 EW.size
            · go_simp
              have E6 : Ext wr (wk1.alloc (.cells #[.int .i64 b0, .int .i64 b1, .int .i64 b2] 78)) := Ext.alloc E1 _
              have L6 := lit3_row wk1 b0 b1 b2 78 hb0 hb1 hb2
              have R6 := row_ext R1 ((Ext.refl wk1).alloc (.cells #[.int .i64 b0, .int .i64 b1, .int .i64 b2] 78))
              obtain ⟨g35, hg35⟩ : ∃ q, q = wk1.heap.size := ⟨_, rfl⟩
              have hne : g29 ≠ g35 := by rw [hg35]; omega
              rw [← hg35] at L6 ⊢
              clear hg35
              obtain ⟨wk6, hw6⟩ : ∃ W, W = wk1.alloc (.cells #[.int .i64 b0, .int .i64 b1, .int .i64 b2] 78) := ⟨_, rfl⟩
              rw [← hw6] at E6 R6 L6 ⊢
              clear hw6
              refine hK.out _ _ (by first | exact SKP.out _ E6 | (dsimp only; exact SKP.out _ E6)) (fun hHeld => ?_)
              clear hK KK
              try simp only [Act.put, List.setIfInBounds_toArray, List.set_cons_zero, List.set_cons_succ]
              refine wpAnyH_ready (rs := [4]) (by kernel_rfl) (by simp) ?_
              refine AllReadyH.cons (o := { dst := some 76, op := _, type := _, pos := _, after := _, guard := _ }) rfl (fun KK hK => ?_) AllReadyH.nil
              refine step_src3 (by rfl) (.tmp 72) (.tmp 75) 28 (by rfl) wr.heap.size 78 i0 _ Try.underlying28 hi hz0 hz1 hz2 rfl _ 0 [] (by rfl) R6 _ p (z3.take (p * 3)) (by rfl) (HT.out.ext E6) (by omega) E6.size ?_
              intro v7 wk7 R7 G7
              have E7 : Ext wr wk7 := Ext.of_grownAt E6 G7 (fun q hq => (R6.lt q hq).1)
              have L7 := introw_far3 L6 G7 (by simp [Value.ownBlock]; omega)
              refine hK.out _ _ (by first | exact SKP.out _ E7 | (dsimp only; exact SKP.out _ E7)) (fun hHeld => ?_)
              clear hK KK
              try simp only [Act.put, List.setIfInBounds_toArray, List.set_cons_zero, List.set_cons_succ]
              refine wpAnyH_ready (rs := [7]) (by kernel_rfl) (by simp) ?_
              refine AllReadyH.cons (o := { dst := some 79, op := _, type := _, pos := _, after := _, guard := _ }) rfl (fun KK hK => ?_) AllReadyH.nil
              refine step_src3 (by rfl) (.tmp 76) (.tmp 78) 28 (by rfl) wr.heap.size 78 i0 _ Try.underlying28 hi hz0 hz1 hz2 rfl _ (0 + p) _ (by rfl) R7 _ 1 [b0, b1, b2] (by rfl) L7 (by omega) E7.size ?_
              intro v8 wk8 R8 G8
              have E8 : Ext wr wk8 := Ext.of_grownAt E7 G8 (fun q hq => (R7.lt q hq).1)
              refine hK.out _ _ (by first | exact SKP.out _ E8 | (dsimp only; exact SKP.out _ E8)) (fun hHeld => ?_)
              clear hK KK
              try simp only [Act.put, List.setIfInBounds_toArray, List.set_cons_zero, List.set_cons_succ]
              refine wpAnyH_ready (rs := [11]) (by kernel_rfl) (by simp) ?_
              refine AllReadyH.cons (o := { dst := some 83, op := _, type := _, pos := _, after := _, guard := _ }) rfl (fun KK hK => ?_) AllReadyH.nil
              refine step_src3 (by rfl) (.tmp 79) (.tmp 82) 28 (by rfl) wr.heap.size 78 i0 _ Try.underlying28 hi hz0 hz1 hz2 rfl _ (0 + p + 1) _ (by rfl) R8 _ (K.length - p) (z3.drop (p * 3)) (by rfl) (HD.out.ext E8) (by omega) E8.size ?_
              intro v9 wk9 R9 G9
              have E9 : Ext wr wk9 := Ext.of_grownAt E8 G9 (fun q hq => (R8.lt q hq).1)
              refine hK.out _ _ (by first | exact SKP.out _ E9 | (dsimp only; exact SKP.out _ E9)) (fun hHeld => ?_)
              clear hK KK
              try simp only [Act.put, List.setIfInBounds_toArray, List.set_cons_zero, List.set_cons_succ]
              refine wpAnyH_take (i := 12) (oi := { dst := some 4, op := _, type := _, pos := _, after := _, guard := _ }) (v := ?_) rfl (by kernel_rfl) (by kernel_rfl) (by kernel_rfl) (fun _ _ _ h => h) (Or.inl ⟨by rfl, ?_⟩) (by assumption) ?_
              rotate_left
              · (intro w hSw; (try dsimp only at hSw); go_simp) <;> (first | done | with_reducible rfl | rfl)
              try simp only [Act.put, List.setIfInBounds_toArray, List.set_cons_zero, List.set_cons_succ]
              refine wpAnyH_done (by kernel_rfl) ?_ _
              refine NoPanic.normal ?_
              go_wp2_with (fail)
              go_ret
              refine ⟨_, rfl, ?_, EW.trans E9⟩
              have e1 : (addR z k (xl, xa, xb)).length = 0 + p + 1 + (K.length - p) := by rw [HAD.out]; simp; omega
              have e2 : (flat (addR z k (xl, xa, xb))).map (Value.int .i64) = [] ++ (z3.take (p * 3)).map (Value.int .i64) ++ [b0, b1, b2].map (Value.int .i64) ++ (z3.drop (p * 3)).map (Value.int .i64) := by rw [HAD.out, HZ3.out, flat_take, flat_drop, flat_mid]; simp
              rw [e1, e2]
              exact row_mono R9 EW.size
          · go_simp
            have E10 : Ext wr (wd.alloc (.cells #[.int .i64 b0, .int .i64 b1, .int .i64 b2] 78)) := Ext.alloc ED _
            have L10 := lit3_row wd b0 b1 b2 78 hb0 hb1 hb2
            obtain ⟨g35, hg35⟩ : ∃ q, q = wd.heap.size := ⟨_, rfl⟩
            have hlt35 : g35 < (wd.alloc (.cells #[.int .i64 b0, .int .i64 b1, .int .i64 b2] 78)).heap.size := by rw [hg35]; simp
            rw [← hg35] at L10 ⊢
            clear hg35
            obtain ⟨wk10, hw10⟩ : ∃ W, W = wd.alloc (.cells #[.int .i64 b0, .int .i64 b1, .int .i64 b2] 78) := ⟨_, rfl⟩
            rw [← hw10] at E10 L10 hlt35 ⊢
            clear hw10
            refine hK.out _ _ (by first | exact SKP.out _ E10 | (dsimp only; exact SKP.out _ E10)) (fun hHeld => ?_)
            clear hK KK
            try simp only [Act.put, List.setIfInBounds_toArray, List.set_cons_zero, List.set_cons_succ]
            refine wpAnyH_ready (rs := [0]) (by kernel_rfl) (by simp) ?_
            refine AllReadyH.cons (o := { dst := some 72, op := _, type := _, pos := _, after := _, guard := _ }) rfl (fun KK hK => ?_) AllReadyH.nil
            go_simp
            have E11 : Ext wr (wk10.alloc (.cells #[] 78)) := Ext.alloc E10 _
            have R11 := row_mono (row_empty3 wk10 78) (show wr.heap.size ≤ wk10.heap.size from E10.size)
            have L11 := IntRow.ext L10 ((Ext.refl wk10).alloc (.cells #[] 78))
            obtain ⟨g29, hg29⟩ : ∃ q, q = wk10.heap.size := ⟨_, rfl⟩
            have hne : g29 ≠ g35 := by rw [hg29]; omega
            have hgl : wr.heap.size ≤ g29 := by rw [hg29]; exact E10.size
            rw [← hg29] at R11 ⊢
            clear hg29
            obtain ⟨wk11, hw11⟩ : ∃ W, W = wk10.alloc (.cells #[] 78) := ⟨_, rfl⟩
            rw [← hw11] at E11 R11 L11 ⊢
            clear hw11
            refine hK.out _ _ (by first | exact SKP.out _ E11 | (dsimp only; exact SKP.out _ E11)) (fun hHeld => ?_)
            clear hK KK
            try simp only [Act.put, List.setIfInBounds_toArray, List.set_cons_zero, List.set_cons_succ]
            refine wpAnyH_ready (rs := [4]) (by kernel_rfl) (by simp) ?_
            refine AllReadyH.cons (o := { dst := some 76, op := _, type := _, pos := _, after := _, guard := _ }) rfl (fun KK hK => ?_) AllReadyH.nil
            refine step_src3 (by rfl) (.tmp 72) (.tmp 75) 28 (by rfl) wr.heap.size 78 i0 _ Try.underlying28 hi hz0 hz1 hz2 rfl _ 0 [] (by rfl) R11 _ p (z3.take (p * 3)) (by rfl) (HT.out.ext E11) (by omega) E11.size ?_
            intro v12 wk12 R12 G12
            have E12 : Ext wr wk12 := Ext.of_grownAt E11 G12 (fun q hq => (R11.lt q hq).1)
            have L12 := introw_far3 L11 G12 (by simp [Value.ownBlock]; omega)
            refine hK.out _ _ (by first | exact SKP.out _ E12 | (dsimp only; exact SKP.out _ E12)) (fun hHeld => ?_)
            clear hK KK
            try simp only [Act.put, List.setIfInBounds_toArray, List.set_cons_zero, List.set_cons_succ]
            refine wpAnyH_ready (rs := [7]) (by kernel_rfl) (by simp) ?_
            refine AllReadyH.cons (o := { dst := some 79, op := _, type := _, pos := _, after := _, guard := _ }) rfl (fun KK hK => ?_) AllReadyH.nil
            refine step_src3 (by rfl) (.tmp 76) (.tmp 78) 28 (by rfl) wr.heap.size 78 i0 _ Try.underlying28 hi hz0 hz1 hz2 rfl _ (0 + p) _ (by rfl) R12 _ 1 [b0, b1, b2] (by rfl) L12 (by omega) E12.size ?_
            intro v13 wk13 R13 G13
            have E13 : Ext wr wk13 := Ext.of_grownAt E12 G13 (fun q hq => (R12.lt q hq).1)
            refine hK.out _ _ (by first | exact SKP.out _ E13 | (dsimp only; exact SKP.out _ E13)) (fun hHeld => ?_)
            clear hK KK
            try simp only [Act.put, List.setIfInBounds_toArray, List.set_cons_zero, List.set_cons_succ]
            refine wpAnyH_ready (rs := [11]) (by kernel_rfl) (by simp) ?_
            refine AllReadyH.cons (o := { dst := some 83, op := _, type := _, pos := _, after := _, guard := _ }) rfl (fun KK hK => ?_) AllReadyH.nil
            refine step_src3 (by rfl) (.tmp 79) (.tmp 82) 28 (by rfl) wr.heap.size 78 i0 _ Try.underlying28 hi hz0 hz1 hz2 rfl _ (0 + p + 1) _ (by rfl) R13 _ (K.length - p) (z3.drop (p * 3)) (by rfl) (HD.out.ext E13) (by omega) E13.size ?_
            intro v14 wk14 R14 G14
            have E14 : Ext wr wk14 := Ext.of_grownAt E13 G14 (fun q hq => (R13.lt q hq).1)
            refine hK.out _ _ (by first | exact SKP.out _ E14 | (dsimp only; exact SKP.out _ E14)) (fun hHeld => ?_)
            clear hK KK
            try simp only [Act.put, List.setIfInBounds_toArray, List.set_cons_zero, List.set_cons_succ]
            refine wpAnyH_take (i := 12) (oi := { dst := some 4, op := _, type := _, pos := _, after := _, guard := _ }) (v := ?_) rfl (by kernel_rfl) (by kernel_rfl) (by kernel_rfl) (fun _ _ _ h => h) (Or.inl ⟨by rfl, ?_⟩) (by assumption) ?_
            rotate_left
            · (intro w hSw; (try dsimp only at hSw); go_simp) <;> (first | done | with_reducible rfl | rfl)
            try simp only [Act.put, List.setIfInBounds_toArray, List.set_cons_zero, List.set_cons_succ]
            refine wpAnyH_done (by kernel_rfl) ?_ _
            refine NoPanic.normal ?_
            go_wp2_with (fail)
            go_ret
            refine ⟨_, rfl, ?_, EW.trans E14⟩
            have e1 : (addR z k (xl, xa, xb)).length = 0 + p + 1 + (K.length - p) := by rw [HAD.out]; simp; omega
            have e2 : (flat (addR z k (xl, xa, xb))).map (Value.int .i64) = [] ++ (z3.take (p * 3)).map (Value.int .i64) ++ [b0, b1, b2].map (Value.int .i64) ++ (z3.drop (p * 3)).map (Value.int .i64) := by rw [HAD.out, HZ3.out, flat_take, flat_drop, flat_mid]; simp
            rw [e1, e2]
            exact row_mono R14 EW.size

end Go.Proofs.Ytjmbhlhkjjinbaa