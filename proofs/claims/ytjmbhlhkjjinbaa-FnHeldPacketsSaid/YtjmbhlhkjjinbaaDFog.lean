/- What the reference draws: fogs. Condition: the code's length. -/
import Derived.Test.YtjmbhlhkjjinbaaTypP
import Derived.Test.YtjmbhlhkjjinbaaConvFog
import Derived.Test.YtjmbhlhkjjinbaaDNs
import Derived.Handy
namespace Go.Proofs.Ytjmbhlhkjjinbaa
open Go.RowKit
set_option linter.unusedSimpArgs false
set_option linter.unusedVariables false

/-- the first k elements of a row of the call's own -/
theorem row_short {w : World} {base : Nat} {e : TypeId} {size n c k : Nat} {a : Option Addr} {xs : List Value} (h : w.ownsRow base e size (.slice a n c) n xs) (hk : k ≤ n) : w.ownsRow base e size (.slice a k c) k (xs.take (k * size)) := by
  have hks : k * size ≤ n * size := Nat.mul_le_mul_right _ hk
  refine ⟨by rw [List.length_take, h.1]; omega, ?_⟩
  rcases h.2 with ⟨h1, rfl⟩ | ⟨g, cap, cur, h1, h2, h3, h4, h5, h6, h7⟩
  · simp only [Value.slice.injEq, true_and] at h1
    obtain ⟨rfl, rfl⟩ := h1
    obtain rfl : k = 0 := by omega
    exact .inl ⟨rfl, rfl⟩
  · simp only [Value.slice.injEq, true_and] at h1
    obtain ⟨rfl, rfl⟩ := h1
    refine .inr ⟨g, c, cur, rfl, h2, h3, by omega, h5, h6, ?_⟩
    rw [← h7, List.take_take, show min (k * size) (n * size) = k * size by omega]
/-- a row of the call's own, over an older mark -/
theorem row_base {w : World} {B b : Nat} {e : TypeId} {size : Nat} {v : Value} {n : Nat} {xs : List Value} (h : w.ownsRow B e size v n xs) (hb : b ≤ B) : w.ownsRow b e size v n xs := by
  obtain ⟨h1, h2⟩ := h
  refine ⟨h1, ?_⟩
  rcases h2 with h2 | ⟨g, cap, cur, h2, h3, h4⟩
  · exact .inl h2
  · exact .inr ⟨g, cap, cur, h2, by omega, h4⟩
/-- a cell of a row of integers -/
theorem row_icell {w : World} {base : Nat} {e : TypeId} {size n g cap : Nat} {zs : List Int} (h : w.ownsRow base e size (.slice (some ⟨g, 0, none⟩) n cap) n (zs.map (Value.int .i64))) (hw : ∀ z ∈ zs, (Lit.int .i64 z).wf = true) (j : Nat) (hj : j < n * size) : ∃ z, w.cell? ⟨g, j, none⟩ = some (.int .i64 z) ∧ -9223372036854775808 ≤ z ∧ z ≤ 9223372036854775807 := by
  obtain ⟨u, h1, h2⟩ := row_cell h j hj
  rw [List.getElem?_map] at h2
  cases hz : zs[j]? with
  | none => rw [hz] at h2; cases h2
  | some z =>
    rw [hz] at h2
    obtain rfl : Value.int .i64 z = u := by simpa using h2
    exact ⟨z, h1, wf_bd (hw z (List.mem_of_getElem? hz))⟩
theorem set_wfG {zs : List Int} {j : Nat} {z : Int} (h : ∀ x ∈ zs, (Lit.int .i64 x).wf = true) (hz : (Lit.int .i64 z).wf = true) : ∀ x ∈ zs.set j z, (Lit.int .i64 x).wf = true := fun x hx => by
  rcases List.mem_or_eq_of_mem_set hx with h1 | h1
  · exact h x h1
  · exact h1 ▸ hz
/-- the kinds of the region that draws a fog's end -/
def uX (B bx : Nat) (z : Int) : Nat → World → Value → Prop := fun k w v =>
  match k with
  | 0 => v = .pointer (some ⟨bx, 0, none⟩) ∧ bx < w.heap.size ∧ bx ≠ B ∧ w.cell? ⟨bx, 2, none⟩ = some (.int .i64 z) ∧ (Lit.int .i64 z).wf = true
  | 1 => v = .pointer (some ⟨bx, 2, none⟩) ∧ bx < w.heap.size ∧ bx ≠ B ∧ w.cell? ⟨bx, 2, none⟩ = some (.int .i64 z) ∧ (Lit.int .i64 z).wf = true
  | _ => False
theorem uX_ok (B bx : Nat) (z : Int) : UOk B [] (uX B bx z) := by
  intro k w w' v g h
  unfold uX at h ⊢
  have hs := g.size
  split at h <;> first | exact h | (obtain ⟨rfl, h1, h2, h3, h4⟩ := h; exact ⟨rfl, by omega, h2, (World.cell?_of_block (g.block bx h1 h2 (by simp))).trans h3, h4⟩)
theorem x0_1 {B bx : Nat} {z : Int} : ∀ w v, uX B bx z 0 w v → ∃ b' o, v = .pointer (some ⟨b', o, none⟩) ∧ uX B bx z 1 w (.pointer (some ⟨b', o + 2, none⟩)) := by
  rintro w v ⟨rfl, h⟩
  exact ⟨bx, 0, rfl, rfl, h⟩
theorem x1_i {B bx : Nat} {z : Int} : ∀ w v, uX B bx z 1 w v → ∃ b' o y, v = .pointer (some ⟨b', o, none⟩) ∧ w.cell? ⟨b', o, none⟩ = some (.int .i64 y) ∧ (Lit.int .i64 y).wf = true := by
  rintro w v ⟨rfl, h1, h2, h3, h4⟩
  exact ⟨bx, 2, z, rfl, h3, h4⟩
set_option maxRecDepth 100000 in
theorem fF2 (b o : Nat) (w : World) : (Instr.fieldAt 78 (.pointer (some ⟨b, o, none⟩)) 2).run Try.prog w = .ok (.pointer (some ⟨b, o + 2, none⟩)) w := by simp [go_sem]
theorem lit3_atF (w : World) (g : Nat) (x0 x1 x2 : Int) (t : TypeId) (hg : g = w.heap.size) (h0 : (Lit.int .i64 x0).wf = true) (h1 : (Lit.int .i64 x1).wf = true) (h2 : (Lit.int .i64 x2).wf = true) : IntRow .i64 3 (w.alloc (.cells #[.int .i64 x0, .int .i64 x1, .int .i64 x2] t)) (.slice (some ⟨g, 0, none⟩) 1 1) 1 [x0, x1, x2] := by
  subst hg
  exact lit3_row w x0 x1 x2 t h0 h1 h2
theorem wrap_wf (x : Int) : (Lit.int .i64 (IntKind.i64.wrap x)).wf = true := by
  obtain ⟨y, e, h⟩ := intV_wrap x
  cases e
  exact h
set_option maxRecDepth 100000 in
set_option maxHeartbeats 8000000 in
theorem fogS {w : World} {B : Nat} {vc : Value} {n : Nat} {zc : List Int} {q : Nat} (xT : Value) (aL : Option Addr) (nL cL : Nat) (h : CS w B vc n zc q) (hq : q ≤ 100000000000) (hn : nL ≤ 45) :
    Calls Try.prog 48 #[.pointer (some ⟨B, 0, none⟩), .agg #[xT, .slice aL nL cL]] w fun e w' => ∃ (v : Value) (m : Nat) (zs : List Int) (q' : Nat), e = .returned v ∧ w'.ownsRow w.heap.size 78 3 v m (zs.map (Value.int .i64)) ∧ m ≤ 61 ∧ (∀ z ∈ zs, (Lit.int .i64 z).wf = true) ∧ q' ≤ q + 200000000 ∧ CS w' B vc n zc q' ∧ w.grownBy w' (some B) := by
  obtain ⟨i0, hi, hz0, hz1, hz2⟩ := info_parts info_Fog
  have hBs := h.size
  go_enter Try.func48, Try.ntmps48
  go_wp2_with (fail)
  have e0 : Ext w (w.alloc (.cells #[xT, .slice aL nL cL] 27)) := (by repeat (first | exact Ext.refl _ | assumption | refine Ext.alloc ?_ _ | refine Ext.drew ?_ | refine Ext.drewN ?_ _ | refine Ext.setCell ?_ (by first | exact Nat.le_refl _ | (simp; done) | (dsimp only; omega) | (simp only [World.size_alloc, World.size_setCell]; omega)) _ | refine Ext.trans ?_ (by assumption)))
  have hc1 := h.ext e0
  have c1 : (w.alloc (.cells #[xT, .slice aL nL cL] 27)).cell? ⟨w.heap.size, 1, none⟩ = some (.slice aL nL cL) := by simp
  have hlt3 : w.heap.size < (w.alloc (.cells #[xT, .slice aL nL cL] 27)).heap.size := by simp
  have hne3 : w.heap.size ≠ B := by omega
  generalize (w.alloc (.cells #[xT, .slice aL nL cL] 27)) = w1 at *
  obtain ⟨b3, hb3⟩ : ∃ b, b = w.heap.size := ⟨_, rfl⟩
  obtain ⟨bs, hbs⟩ : ∃ b, b = w1.heap.size := ⟨_, rfl⟩
  have hbs1 : w1.heap.size ≤ bs := by omega
  have hbs2 : bs ≤ w1.heap.size := by omega
  have hb3w : w.heap.size ≤ b3 := by omega
  rw [← hb3] at c1 hlt3 hne3 ⊢
  clear hb3 hbs
  have HE0 := hid e0
  have HC1 := hid c1
  clear e0 h
  refine (pickS 4 hc1 (by omega)).mono ?_
  rintro e w2 ⟨mu, q2, rfl, m0, _, m1, hq2, hq2', hc2, hg2⟩
  have m1' := m1 (by omega)
  have c2 := World.grownBy.cell hg2 HC1.out (by simpa using hne3)
  obtain ⟨mu, rfl⟩ := Int.eq_ofNat_of_zero_le m0
  clear m1 hc1 c1
  go_wp2_with (fail)
  go_loopg [5, 18] nL (fun gk s5 s18 wr => ∃ (i m : Nat) (zs : List Int) (qr : Nat), i + gk = nL ∧ s18 = .int .i64 (i : Int) ∧ wr.ownsRow bs 78 3 s5 m (zs.map (Value.int .i64)) ∧ (∀ z ∈ zs, (Lit.int .i64 z).wf = true) ∧ m ≤ i * 3 ∧ qr ≤ q + 10 + i * 3000000 ∧ CS wr B vc n zc qr ∧ w1.grownBy wr (some B))
  case atStart => exact ⟨0, 0, [], q2, by omega, rfl, World.ownsRow_nil _ _ _ _, by simp, by omega, by omega, hc2, hg2⟩
  case round =>
    clear hc2 hg2 c2
    obtain ⟨i, m, zs, qr, hig, rfl, hrow, hzw, hm, hqr, hcr, hgr⟩ := hrel
    obtain ⟨a3, c3, rfl, _, _, _⟩ := row_shape hrow
    obtain ⟨gi, hgi⟩ : ∃ g : Nat, g = gk := ⟨_, rfl⟩
    subst hgi
    by_cases hlt : i < nL
    · have tl : decide ((i : Int) < (nL : Int)) = true := by simpa using hlt
      have HROW := hid hrow
      clear hrow
      go_wp2_with (fail)
      refine (pickS 40 hcr (by omega)).mono ?_
      rintro e w4 ⟨tt, q4, rfl, t0, _, t1, hq4, hq4', hc4, hg4⟩
      have t1' := t1 (by omega)
      have hgr4 := World.grownBy.trans hgr hg4
      have HROW4 := hid (HROW.out.kept hg4 (by
        cases hb : (Value.slice a3 m c3).ownBlock with
        | none => exact .inl rfl
        | some k => right; intro e; have := (HROW.out.lt k hb).1; simp only [Option.some.injEq] at e; omega))
      have em : IntKind.i64.wrap ((mu : Int) + 1) = (mu : Int) + 1 := IntWalk.i64_in _ (by omega)
      clear HROW hcr hgr hg4 t1
      go_wp2_with (fail)
      refine (pickS ((mu : Int) + 1) hc4 (by omega)).mono ?_
      rintro e w5 ⟨kk, q5, rfl, k0, _, k1, hq5, hq5', hc5, hg5⟩
      have k1' := k1 (by omega)
      obtain ⟨kk, rfl⟩ := Int.eq_ofNat_of_zero_le k0
      have hgr5 := World.grownBy.trans hgr4 hg5
      have hrow5 := HROW4.out.kept hg5 (by
        cases hb : (Value.slice a3 m c3).ownBlock with
        | none => exact .inl rfl
        | some k => right; intro e; have := (HROW4.out.lt k hb).1; simp only [Option.some.injEq] at e; omega)
      have hwt : (Lit.int .i64 tt).wf = true := wf_i64 (by omega)
      clear HROW4 hc4 hgr4 hg5 k1 em
      go_wp2_with (fail)
      go_loopg [5, 8, 9] kk (fun gk s5 s8 s9 wr => ∃ (m : Nat) (zs : List Int) (qr : Nat) (t : Int), gk ≤ 3 ∧ s9 = .int .i64 (gk : Int) ∧ s8 = .int .i64 t ∧ (Lit.int .i64 t).wf = true ∧ wr.ownsRow bs 78 3 s5 m (zs.map (Value.int .i64)) ∧ (∀ z ∈ zs, (Lit.int .i64 z).wf = true) ∧ m + gk ≤ i * 3 + 3 ∧ qr + gk * 900000 ≤ q + 20 + i * 3000000 + 2700000 ∧ CS wr B vc n zc qr ∧ w1.grownBy wr (some B))
      case atStart => exact ⟨m, zs, q5, tt, by omega, rfl, rfl, hwt, hrow5, hzw, by omega, by omega, hc5, hgr5⟩
      case round =>
        clear hrow5 hzw hc5 hgr5 hwt hm
        obtain ⟨m, zs, qr, t, hg3, rfl, rfl, hwt, hrow, hzw, hm, hqr, hcr, hgr⟩ := hrel
        obtain ⟨a3, c3, rfl, _, _, _⟩ := row_shape hrow
        have HROW := hid hrow
        clear hrow
        by_cases hgk : 0 < gk
        · have tl : decide ((0 : Int) < (gk : Int)) = true := by simpa using hgk
          have tl2 : decide (0 < gk) = true := by simpa using hgk
          obtain ⟨T1, hT1⟩ : ∃ x, x = IntKind.i64.wrap (t + 1) := ⟨_, rfl⟩
          have hT1' := hT1.symm
          have hgk1 : IntKind.i64.wrap ((gk : Int) - 1) = (gk : Int) - 1 := IntWalk.i64_in _ (by omega)
          clear hT1
          go_wp2_with (fail)
          refine (pickS 30 hcr (by omega)).mono ?_
          rintro e w6 ⟨x2, q6, rfl, x0, _, x1, hq6, hq6', hc6, hg6⟩
          obtain ⟨T2, hT2⟩ : ∃ x, x = IntKind.i64.wrap (T1 + x2) := ⟨_, rfl⟩
          have hT2' := hT2.symm
          have hwT2 : (Lit.int .i64 T2).wf = true := by rw [hT2]; exact wrap_wf _
          have hwi : (Lit.int .i64 (i : Int)).wf = true := wf_i64 (by omega)
          have hgr6 := World.grownBy.trans hgr hg6
          have HROW6 := hid (HROW.out.kept hg6 (by
            cases hb : (Value.slice a3 m c3).ownBlock with
            | none => exact .inl rfl
            | some k => right; intro e; have := (HROW.out.lt k hb).1; simp only [Option.some.injEq] at e; omega))
          have HWS := hid (And.intro hwi (And.intro hwt hwT2))
          have hsz6 := hgr6.size
          clear hT2 HROW hcr hgr hg6 hwi x1 hwt
          go_wp2_with (at_builtin; go_loud (refine wpList_src3 rfl (.tmp 39) (.tmp 41) 28 rfl bs 78 i0 _ Try.underlying28 hi hz0 hz1 hz2 rfl (.slice a3 m c3) m (zs.map (Value.int .i64)) rfl (row_ext HROW6.out (by repeat (first | (with_reducible exact Ext.refl _) | (with_reducible assumption) | (with_reducible refine Ext.alloc ?_ _) | (with_reducible refine Ext.drew ?_) | (with_reducible refine Ext.drewN ?_ _) | ((with_reducible refine Ext.setCell ?_ ?_ _); rotate_left; (first | exact Nat.le_refl _ | (simp; done) | (dsimp only; omega) | (simp only [World.size_alloc, World.size_setCell]; omega))) | (with_reducible refine Ext.trans ?_ (by assumption))))) _ 1 [(i : Int), t, T2] rfl (lit3_atF _ _ (i : Int) t T2 _ (by simp) HWS.out.1 HWS.out.2.1 HWS.out.2.2) (by omega) (by simp only [World.size_alloc]; omega) ?_; intro v1 wz hr1 hgz; obtain ⟨a1, c1', rfl, _, _, _⟩ := row_shape hr1))
          have hfar : ∀ k, (Value.slice a3 m c3).ownBlock = some k → B < k ∧ w1.heap.size ≤ k ∧ k < w6.heap.size := fun k hk => by have := HROW6.out.lt k hk; omega
          have HCZ := hid (show CS wz B vc n zc q6 from CS.far (hc6.ext (((Ext.refl _).alloc _).alloc _)) hgz (fun k hk => (hfar k hk).1))
          have HGZ := hid (show w1.grownBy wz (some B) from World.grownBy.andThen (World.grownBy.trans hgr6 ((((Ext.refl _).alloc _).alloc _ : Ext w6 _).grown.but (some B))) hgz (fun k hk => .inl (hfar k hk).2.1))
          have hbx2 : wz.cell? ⟨w6.heap.size, 2, none⟩ = some (.int .i64 T2) := World.grownBy.cell (a := ⟨w6.heap.size, 2, none⟩) hgz ((((Ext.refl _).alloc _ : Ext (w6.alloc (.cells #[.int .i64 (i : Int), .int .i64 t, .int .i64 T2] 78)) _).cells.1 w6.heap.size 2 (by simp)).trans (by simp)) (fun e => absurd (hfar _ e.symm).2.2 (Nat.lt_irrefl _))
          have hbxs : w6.heap.size < wz.heap.size := by have := hgz.size; simp only [World.size_alloc] at this; omega
          obtain ⟨bx, hbx⟩ : ∃ b, b = w6.heap.size := ⟨_, rfl⟩
          have hbxB : bx ≠ B := by omega
          rw [← hbx] at hbx2 hbxs ⊢
          have HR1 := hid hr1
          have hcz := HCZ.out
          clear hbx hfar hgz hr1 HCZ HROW6 hc6 hgr6
          have hU := uX_ok B bx T2
          refine wp_region_typed' (by kernel_rfl) (CI B [] (uX B bx T2) vc n zc) (vT B [] (uX B bx T2)) (Gr B []) 100000 800000000000 (Gr.refl _ _) (fun _ _ _ h k => Gr.trans h k) (fun _ _ _ _ g h => vT_mono hU g h) (fun _ _ h => CI.ext hU h ((Ext.refl _).drew)) (fun _ => Gr.of_ext ((Ext.refl _).drew)) [([(10, (.usr 0))], (.usr 1)), ([(43, (.usr 1))], .int), ([(44, .int)], .int), ([(0, .cur)], .cur), ([(46, .cur)], .int), ([(45, .int), (47, .int)], .int), ([(48, .int)], .int)] [(0, .cur), (10, (.usr 0))] (by kernel_rfl) (AllOk.cons (ok_fptr fF2 x0_1 rfl) (AllOk.cons (ok_loadPI (by kernel_rfl) x1_i rfl) (AllOk.cons (ok_arith (.inl rfl) rfl rfl) (AllOk.cons (ok_move rfl) (AllOk.cons (ok_call (enters Try.func23 (by kernel_rfl) (by kernel_rfl)) (pickT vc n zc) rfl rfl hU) (AllOk.cons (ok_arith (.inl rfl) rfl rfl) (AllOk.cons (ok_assign rfl) (trivial)))))))) (q6) (by first | decide | (simp only [List.size_toArray, List.length_cons, List.length_nil]; omega)) ⟨hcz, Bx.nil _⟩ (GCons (rfl) (GCons (⟨rfl, hbxs, hbxB, hbx2, hwT2⟩) GNil)) [43, 44, 45, 46, 47, 48, 8] (by kernel_rfl) ?_
          intro u w' q' hq' hI' hG hu
          simp only [List.size_toArray, List.length_cons, List.length_nil, Nat.reduceMul] at hq'
          obtain ⟨y, e8, hyw⟩ : ∃ y, u 8 = .int .i64 y ∧ (Lit.int .i64 y).wf = true := hu 8 .int (by kernel_rfl)
          have hgr' := World.grownBy.trans HGZ.out hG.grown
          have HR2 := hid (HR1.out.kept hG.grown (.inr (fun e => by have := HR1.out.lt _ e; omega)))
          have hcz' := hI'.1
          clear hu hI' hG hU HR1 HGZ hcz
          simp only [putsAt, List.foldl_cons, List.foldl_nil, List.setIfInBounds_toArray, List.set_cons_zero, List.set_cons_succ]
          rw [e8]
          clear e8
          go_wp2_with (fail)
          go_roundg (gk - 1)
          case rel =>
            refine ⟨m + 1, zs ++ [(i : Int), t, T2], q', y, by omega, by first | rfl | go_num, rfl, hyw, ?_, app_wf hzw HWS.out.1 HWS.out.2.1 HWS.out.2.2, by omega, by omega, hcz', hgr'⟩
            rw [List.map_append]
            exact HR2.out
          case measure => omega
        · obtain rfl : gk = 0 := by omega
          have tl : decide ((0 : Int) < ((0 : Nat) : Int)) = false := by simp
          have tl2 : decide ((0 : Int) < (0 : Int)) = false := by simp
          have tl3 : decide (0 < 0) = false := by simp
          go_wp2_with (fail)
          go_roundg (gi - 1)
          case rel => exact ⟨i + 1, m, zs, qr, by omega, by first | rfl | go_num, HROW.out, hzw, by omega, by omega, hcr, hgr⟩
          case measure => omega
    · obtain rfl : i = nL := by omega
      have tl : decide ((i : Int) < (i : Int)) = false := by simp
      have HROW := hid hrow
      clear hrow
      go_upto_if 52 with (fail)
      go_cut [5] from 53 to 54 (fun s5 wx => ∃ (m : Nat) (zs : List Int) (q' : Nat), wx.ownsRow bs 78 3 s5 m (zs.map (Value.int .i64)) ∧ m ≤ 60 ∧ (∀ z ∈ zs, (Lit.int .i64 z).wf = true) ∧ q' ≤ q + 150000000 ∧ CS wx B vc n zc q' ∧ w1.grownBy wx (some B))
      case first =>
        by_cases h60 : 60 < m
        · have t60 : decide ((60 : Int) < (m : Int)) = true := by simp; omega
          have hrs := row_short HROW.out (k := 60) (by omega)
          rw [← List.map_take] at hrs
          go_wp2_with (fail)
          go_meet
          exact ⟨60, _, qr, hrs, by omega, fun z hz => hzw z (List.mem_of_mem_take hz), by omega, hcr, hgr⟩
        · have t60 : decide ((60 : Int) < (m : Int)) = false := by simp; omega
          go_wp2_with (fail)
          go_meet
          exact ⟨m, zs, qr, HROW.out, by omega, hzw, by omega, hcr, hgr⟩
      case rest =>
        clear HROW hzw hm hqr hcr hgr
        obtain ⟨m, zs, q6, hrow, hm, hzw, hq6, hcr, hgr⟩ := hcut
        obtain ⟨a3, c3, rfl, _, _, _⟩ := row_shape hrow
        have HROW := hid hrow
        have c2 := World.grownBy.cell hgr HC1.out (by simpa using hne3)
        clear hrow
        go_upto_region 16 with (fail)
        go_cut [62] from 55 to 61 (fun s62 wx => ∃ (b : Bool) (q' : Nat), s62 = .bool b ∧ wx.ownsRow bs 78 3 (.slice a3 m c3) m (zs.map (Value.int .i64)) ∧ q' ≤ q + 150000002 ∧ CS wx B vc n zc q' ∧ w1.grownBy wx (some B))
        case first =>
          by_cases hL : 0 < i
          · have tL : decide ((0 : Int) < (i : Int)) = true := by simpa using hL
            have tL2 : decide (0 < i) = true := by simpa using hL
            go_wp2_with (fail)
            refine (oneS 24 hcr (by omega)).mono ?_
            rintro e w5 ⟨o5, q5, rfl, hq5, hq5', hc5, hg5⟩
            have hrow5 := HROW.out.kept hg5 (by
              cases hb : (Value.slice a3 m c3).ownBlock with
              | none => exact .inl rfl
              | some k => right; intro e; have := (HROW.out.lt k hb).1; simp only [Option.some.injEq] at e; omega)
            go_wp2_with (fail)
            go_meet
            exact ⟨_, q5, rfl, hrow5, by omega, hc5, World.grownBy.trans hgr hg5⟩
          · have tL : decide ((0 : Int) < (i : Int)) = false := by simp; omega
            have tL2 : decide (0 < i) = false := by simp; omega
            go_wp2_with (fail)
            go_meet
            exact ⟨_, q6, rfl, HROW.out, by omega, hcr, hgr⟩
        case rest =>
          clear HROW hcr hgr c2 hq6
          obtain ⟨o, q6, rfl, hrow, hq6, hcr, hgr⟩ := hcut
          have HROW := hid hrow
          have c2 := World.grownBy.cell hgr HC1.out (by simpa using hne3)
          clear hrow
          go_upto_if 62 with (fail)
          go_cut [5] from 11 to 80 (fun s5 wx => ∃ (m : Nat) (zs : List Int) (q' : Nat), wx.ownsRow bs 78 3 s5 m (zs.map (Value.int .i64)) ∧ m ≤ 61 ∧ (∀ z ∈ zs, (Lit.int .i64 z).wf = true) ∧ q' ≤ q + 150000004 ∧ CS wx B vc n zc q' ∧ w1.grownBy wx (some B))
          case first =>
            cases o with
            | false =>
              go_wp2_with (fail)
              go_meet
              exact ⟨m, zs, q6, HROW.out, by omega, hzw, by omega, hcr, hgr⟩
            | true =>
              clear HROW hzw
              go_wp2_with (fail)
              refine (pickS 2 hcr (by omega)).mono ?_
              rintro e w7 ⟨k2, q7, rfl, k0', _, k1'', hq7, hq7', hc7, hg7⟩
              have k1x := k1'' (by omega)
              obtain ⟨k2, rfl⟩ := Int.eq_ofNat_of_zero_le k0'
              have hgr7 := World.grownBy.trans hgr hg7
              clear k1'' hcr hgr hg7 c2
              obtain ⟨M, hM⟩ : ∃ M, M = 60 + k2 := ⟨_, rfl⟩
              have hM2 : IntKind.i64.wrap (60 + (k2 : Int)) = 60 + (k2 : Int) := IntWalk.i64_in _ (by omega)
              go_wp2_with (fail)
              go_loopg [5] M (fun gk s5 wr => ∃ (m : Nat) (zs : List Int), m + gk = M ∧ wr.ownsRow bs 78 3 s5 m (zs.map (Value.int .i64)) ∧ (∀ z ∈ zs, (Lit.int .i64 z).wf = true) ∧ CS wr B vc n zc q7 ∧ w1.grownBy wr (some B))
              case atStart => exact ⟨0, [], by omega, World.ownsRow_nil _ _ _ _, by simp, hc7, hgr7⟩
              case round =>
                clear hc7 hgr7
                obtain ⟨m, zs, hmg, hrow, hzw, hcr, hgr⟩ := hrel
                obtain ⟨a3, c3, rfl, _, _, _⟩ := row_shape hrow
                have HROW := hid hrow
                clear hrow
                by_cases hgk : m < M
                · have tl : decide ((m : Int) < 60 + (k2 : Int)) = true := by simp; omega
                  have e1 : IntKind.i64.wrap (4 * (m : Int)) = 4 * (m : Int) := IntWalk.i64_in _ (by omega)
                  have e2 : IntKind.i64.wrap (4 * (m : Int) + 2) = 4 * (m : Int) + 2 := IntWalk.i64_in _ (by omega)
                  have wy : (Lit.int .i64 (4 * (m : Int))).wf = true := wf_i64 (by omega)
                  have wy2 : (Lit.int .i64 (4 * (m : Int) + 2)).wf = true := wf_i64 (by omega)
                  go_wp2_with (at_builtin; go_loud (refine wpList_src3 rfl (.tmp 70) (.tmp 79) 28 rfl bs 78 i0 _ Try.underlying28 hi hz0 hz1 hz2 rfl (.slice a3 m c3) m (zs.map (Value.int .i64)) rfl (row_ext HROW.out (by repeat (first | (with_reducible exact Ext.refl _) | (with_reducible assumption) | (with_reducible refine Ext.alloc ?_ _) | (with_reducible refine Ext.drew ?_) | (with_reducible refine Ext.drewN ?_ _) | ((with_reducible refine Ext.setCell ?_ ?_ _); rotate_left; (first | exact Nat.le_refl _ | (simp; done) | (dsimp only; omega) | (simp only [World.size_alloc, World.size_setCell]; omega))) | (with_reducible refine Ext.trans ?_ (by assumption))))) _ 1 [0, 4 * (m : Int), 4 * (m : Int) + 2] rfl (lit3_atF _ _ 0 (4 * (m : Int)) (4 * (m : Int) + 2) _ (by first | rfl | simp) rfl wy wy2) (by omega) (by have := hgr.size; first | omega | (simp only [World.size_alloc]; omega)) ?_; intro v1 wz hr1 hgz; obtain ⟨a1, c1', rfl, _, _, _⟩ := row_shape hr1))
                  have hfar : ∀ k, (Value.slice a3 m c3).ownBlock = some k → B < k ∧ w1.heap.size ≤ k := fun k hk => by have := HROW.out.lt k hk; omega
                  have hcz : CS wz B vc n zc q7 := CS.far (hcr.ext ((Ext.refl _).alloc _)) hgz (fun k hk => (hfar k hk).1)
                  have hgz0 : w1.grownBy wz (some B) := World.grownBy.andThen (World.grownBy.trans hgr (((Ext.refl _).alloc _ : Ext wr _).grown.but (some B))) hgz (fun k hk => .inl (hfar k hk).2)
                  have HR1 := hid hr1
                  clear hr1 hgz hcr hgr HROW hfar
                  go_roundg (gk - 1)
                  case rel =>
                    refine ⟨m + 1, zs ++ [0, 4 * (m : Int), 4 * (m : Int) + 2], by omega, ?_, app_wf hzw rfl wy wy2, hcz, hgz0⟩
                    rw [List.map_append]
                    exact HR1.out
                  case measure => omega
                · have tl : decide ((m : Int) < 60 + (k2 : Int)) = false := by simp; omega
                  go_wp2_with (fail)
                  go_meet
                  exact ⟨m, zs, q7, HROW.out, by omega, hzw, by omega, hcr, hgr⟩
          case rest =>
            clear HROW hcr hgr c2 hq6 hzw
            obtain ⟨m, zs, q6, hrow, hm, hzw, hq6, hcr, hgr⟩ := hcut
            obtain ⟨a3, c3, rfl, _, _, _⟩ := row_shape hrow
            have HROW := hid hrow
            have c2 := World.grownBy.cell hgr HC1.out (by simpa using hne3)
            clear hrow
            go_upto_if 83 with (fail)
            go_cut [5] from 12 to 126 (fun s5 wx => ∃ (m : Nat) (zs : List Int) (q' : Nat), wx.ownsRow bs 78 3 s5 m (zs.map (Value.int .i64)) ∧ m ≤ 61 ∧ (∀ z ∈ zs, (Lit.int .i64 z).wf = true) ∧ q' ≤ q + 150001000 ∧ CS wx B vc n zc q' ∧ w1.grownBy wx (some B))
            case first =>
              by_cases h0 : 0 < m
              · have t2 : decide ((0 : Int) < (m : Int)) = true := by simpa using h0
                have t3 : decide (0 < m) = true := by simpa using h0
                clear c2
                go_wp2_with (fail)
                refine (pickS (m : Int) hcr (by omega)).mono ?_
                rintro e w5 ⟨x5, q5, rfl, hx5, _, hx5', hq5, hq5', hc5, hg5⟩
                have hx5'' := hx5' (by omega)
                obtain ⟨k, rfl⟩ := Int.eq_ofNat_of_zero_le hx5
                have hkm : k < m := by omega
                clear hx5'
                have hrow5 := HROW.out.kept hg5 (by
                  cases hb : (Value.slice a3 m c3).ownBlock with
                  | none => exact .inl rfl
                  | some k => right; intro e; have := (HROW.out.lt k hb).1; simp only [Option.some.injEq] at e; omega)
                have hg05 := World.grownBy.trans hgr hg5
                obtain ⟨_, _, he, _, _, hgo⟩ := row_shape hrow5
                obtain ⟨g, hge, hg1, hg2⟩ := hgo.resolve_left (by omega)
                simp only [Value.slice.injEq, true_and] at he
                obtain ⟨rfl, rfl⟩ := he
                subst hge
                have HROW5 := hid hrow5
                clear hrow5 hcr hgr hg5
                have hk0 : (0 : Int) ≤ (k : Int) := Int.natCast_nonneg _
                have hkm2 : (k : Int) < m := by omega
                have hBg : B < g := by omega
                go_wp2_with (fail)
                refine (pickS 30 hc5 (by omega)).mono ?_
                rintro e w6 ⟨x6, q6', rfl, hx6, _, _, hq6, hq6', hc6, hg6⟩
                have HROW6 := hid (HROW5.out.kept hg6 (.inr (fun e => by simp [Value.ownBlock] at e; omega)))
                have hg06 := World.grownBy.trans hg05 hg6
                have c6 := World.grownBy.cell hg06 HC1.out (by simpa using hne3)
                obtain ⟨F, cF, bF0, bF1⟩ := row_icell HROW6.out hzw (k * 3 + 1) (by omega)
                obtain ⟨T, cT, bT0, bT1⟩ := row_icell HROW6.out hzw (k * 3 + 2) (by omega)
                clear HROW5 hc5 hg05 hg6 HROW
                by_cases e0 : x6 = 0
                · have u0 : decide (x6 = 0) = true := by simpa using e0
                  have u0' : (x6 == 0) = true := by simpa using e0
                  clear e0
                  go_wp2_with (fail)
                  refine (amongL [-1, (i : Int)] hc6 (by omega) rfl (by simp) (by simp) rfl (by intro z hz; simp at hz; omega)).mono ?_
                  rintro e w7 ⟨y, q7, rfl, hy, hq7, hq7', hc7, hg7⟩
                  have wy : (Lit.int .i64 y).wf = true := wf_i64 (by simp at hy; omega)
                  clear hy
                  have hrow7 := HROW6.out.kept hg7 (.inr (fun e => by simp [Value.ownBlock] at e; omega))
                  have hg07 := World.grownBy.trans hg06 hg7
                  have HS := hid (hrow7.stored (k * 3) (.int .i64 y)).1
                  obtain ⟨u, cu, _⟩ := row_cell hrow7 (k * 3) (by omega)
                  have fu := hrow7.frozenAt (k * 3)
                  have hc8 := hc7.set hBg (k * 3) (.int .i64 y)
                  have hg08 := grow_set hg07 (show w1.heap.size ≤ g by omega) (k * 3) (.int .i64 y)
                  clear hrow7 hc6 hg06 hg7 HROW6 c6 cF cT
                  go_wp2_with (fail)
                  go_meet
                  refine ⟨m, zs.set (k * 3) y, q7, ?_, hm, set_wfG hzw wy, by omega, hc8, hg08⟩
                  rw [List.map_set]
                  exact HS.out
                · have u0 : decide (x6 = 0) = false := by simpa using e0
                  have u0' : (x6 == 0) = false := by simpa using e0
                  by_cases e1 : x6 = 1
                  · have u1 : decide (x6 = 1) = true := by simpa using e1
                    have u1' : (x6 == 1) = true := by simpa using e1
                    clear e0 e1
                    go_wp2_with (fail)
                    refine (amongL [-1, T] hc6 (by omega) rfl (by simp) (by simp) rfl (by intro z hz; simp at hz; omega)).mono ?_
                    rintro e w7 ⟨y, q7, rfl, hy, hq7, hq7', hc7, hg7⟩
                    have wy : (Lit.int .i64 y).wf = true := wf_i64 (by simp at hy; omega)
                    clear hy
                    have hrow7 := HROW6.out.kept hg7 (.inr (fun e => by simp [Value.ownBlock] at e; omega))
                    have hg07 := World.grownBy.trans hg06 hg7
                    have HS := hid (hrow7.stored (k * 3 + 1) (.int .i64 y)).1
                    obtain ⟨u, cu, _⟩ := row_cell hrow7 (k * 3 + 1) (by omega)
                    have fu := hrow7.frozenAt (k * 3 + 1)
                    have hc8 := hc7.set hBg (k * 3 + 1) (.int .i64 y)
                    have hg08 := grow_set hg07 (show w1.heap.size ≤ g by omega) (k * 3 + 1) (.int .i64 y)
                    clear hrow7 hc6 hg06 hg7 HROW6 c6 cF cT
                    go_wp2_with (fail)
                    go_meet
                    refine ⟨m, zs.set (k * 3 + 1) y, q7, ?_, hm, set_wfG hzw wy, by omega, hc8, hg08⟩
                    rw [List.map_set]
                    exact HS.out
                  · have u1 : decide (x6 = 1) = false := by simpa using e1
                    have u1' : (x6 == 1) = false := by simpa using e1
                    by_cases e2 : x6 = 2
                    · have u2 : decide (x6 = 2) = true := by simpa using e2
                      have u2' : (x6 == 2) = true := by simpa using e2
                      clear e0 e1 e2
                      go_wp2_with (fail)
                      refine (amongL [F, 10000, 10001] hc6 (by omega) rfl (by simp) (by simp) rfl (by intro z hz; simp at hz; omega)).mono ?_
                      rintro e w7 ⟨y, q7, rfl, hy, hq7, hq7', hc7, hg7⟩
                      have wy : (Lit.int .i64 y).wf = true := wf_i64 (by simp at hy; omega)
                      clear hy
                      have hrow7 := HROW6.out.kept hg7 (.inr (fun e => by simp [Value.ownBlock] at e; omega))
                      have hg07 := World.grownBy.trans hg06 hg7
                      have HS := hid (hrow7.stored (k * 3 + 2) (.int .i64 y)).1
                      obtain ⟨u, cu, _⟩ := row_cell hrow7 (k * 3 + 2) (by omega)
                      have fu := hrow7.frozenAt (k * 3 + 2)
                      have hc8 := hc7.set hBg (k * 3 + 2) (.int .i64 y)
                      have hg08 := grow_set hg07 (show w1.heap.size ≤ g by omega) (k * 3 + 2) (.int .i64 y)
                      clear hrow7 hc6 hg06 hg7 HROW6 c6 cF cT
                      go_wp2_with (fail)
                      go_meet
                      refine ⟨m, zs.set (k * 3 + 2) y, q7, ?_, hm, set_wfG hzw wy, by omega, hc8, hg08⟩
                      rw [List.map_set]
                      exact HS.out
                    · have u2 : decide (x6 = 2) = false := by simpa using e2
                      have u2' : (x6 == 2) = false := by simpa using e2
                      clear e0 e1 e2
                      go_wp2_with (fail)
                      go_meet
                      exact ⟨m, zs, q6', HROW6.out, hm, hzw, by omega, hc6, hg06⟩
              · have t2 : decide ((0 : Int) < (m : Int)) = false := by simp; omega
                have t3 : decide (0 < m) = false := by simp; omega
                go_wp2_with (fail)
                go_meet
                exact ⟨m, zs, q6, HROW.out, hm, hzw, by omega, hcr, hgr⟩
            case rest =>
              clear HROW hcr hgr c2 hq6 hzw hm
              obtain ⟨m, zs, q6, hrow, hm, hzw, hq6, hcr, hgr⟩ := hcut
              have hrow0 := row_base hrow (show w.heap.size ≤ bs by omega)
              clear hrow
              go_wp2_with (fail)
              go_ret
              exact ⟨_, m, zs, q6, rfl, hrow0, hm, hzw, by omega, hcr, World.grownBy.trans (HE0.out.grown.but (some B)) hgr⟩
end Go.Proofs.Ytjmbhlhkjjinbaa