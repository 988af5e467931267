/- What the reference draws: nets, mostly valid ones. Condition: the code's length. -/
import Derived.Test.YtjmbhlhkjjinbaaDNs
import Derived.Test.YtjmbhlhkjjinbaaTypQ
import Derived.Handy
import Derived.Deep.CutBlock
namespace Go.Proofs.Ytjmbhlhkjjinbaa
open Go.RowKit
set_option linter.unusedSimpArgs false
set_option linter.unusedVariables false

theorem wpList_re {P : Program} {ops : Array Oper} {Q : Exit → Act → World → Prop} {l l' : List Oper} {a a' : Act} {w : World} (hl : l = l') (ha : a = a') (h : wpList P ops Q l' a' w) : wpList P ops Q l a w := by
  subst hl ha
  exact h
theorem u0_len {B b nT GT GL nL I cT : Nat} {aT : Option Addr} {vL : Value} (h : nT ≤ 1000000) : ∀ w v, uAny B b (.slice aT nT cT) vL GT nT GL nL I 0 w v → ∃ a l c, v = .slice a l c ∧ l ≤ 1000000 := by
  rintro w v rfl
  exact ⟨aT, nT, cT, rfl, h⟩
theorem made30 : (madeCells (Value.agg #[.int .i64 0, .int .i64 0, .int .i64 0]).cells (10 * 3)).toList = (List.replicate 30 (0 : Int)).map (Value.int .i64) := by kernel_rfl
theorem Ext.block_eq {a b : World} (h : Ext a b) {k : Nat} (hk : k < a.heap.size) : b.heap[k]? = a.heap[k]? := Below.block h k hk

set_option maxRecDepth 100000 in
set_option maxHeartbeats 16000000 in
theorem anyNetS {w : World} {B : Nat} {vc : Value} {n : Nat} {zc : List Int} {q : Nat} (h : CS w B vc n zc q) (hq : q ≤ 200000000) :
    Calls Try.prog 47 #[.pointer (some ⟨B, 0, none⟩)] w fun e w' => ∃ (vT vL : Value) (nT nL : Nat) (zT zL : List Int) (q' : Nat), e = .returned (.agg #[vT, vL]) ∧ w'.ownsRow w.heap.size 96 3 vT nT (zT.map (Value.int .i64)) ∧ w'.ownsRow w.heap.size 72 3 vL nL (zL.map (Value.int .i64)) ∧ (∀ z ∈ zT, (Lit.int .i64 z).wf = true) ∧ (∀ z ∈ zL, (Lit.int .i64 z).wf = true) ∧ nT ≤ 17 ∧ nL ≤ 45 ∧ q' ≤ q + 200000000 ∧ CS w' B vc n zc q' ∧ w.grownBy w' (some B) := by
  obtain ⟨i0, hi, hz0, hz1, hz2⟩ := info_parts info_Tower
  obtain ⟨j0, hj, hy0, hy1, hy2⟩ := info_parts info_Link
  have hBs := h.size
  go_enter Try.func47, Try.ntmps47
  go_wp2_with (fail)
  have e0 : Ext w (w.alloc (.cells #[.slice none 0 0, .slice none 0 0] 27)) := (by repeat (first | exact Ext.refl _ | assumption | refine Ext.alloc ?_ _ | refine Ext.drew ?_ | refine Ext.drewN ?_ _ | refine Ext.setCell ?_ (by first | exact Nat.le_refl _ | (simp; done) | (dsimp only; omega) | (simp only [World.size_alloc, World.size_setCell]; omega)) _ | refine Ext.trans ?_ (by assumption)))
  have hc0 := h.ext e0
  have hrc : (w.alloc (.cells #[.slice none 0 0, .slice none 0 0] 27)).cell? ⟨w.heap.size, 0, none⟩ = some (.slice none 0 0) ∧ (w.alloc (.cells #[.slice none 0 0, .slice none 0 0] 27)).cell? ⟨w.heap.size, 1, none⟩ = some (.slice none 0 0) ∧ (w.alloc (.cells #[.slice none 0 0, .slice none 0 0] 27)).frozen? ⟨w.heap.size, 0, none⟩ = false ∧ (w.alloc (.cells #[.slice none 0 0, .slice none 0 0] 27)).frozen? ⟨w.heap.size, 1, none⟩ = false := by simp
  have hsz : (w.alloc (.cells #[.slice none 0 0, .slice none 0 0] 27)).heap.size = w.heap.size + 1 := by simp
  obtain ⟨Wa, hW0⟩ : ∃ W, W = (w.alloc (.cells #[.slice none 0 0, .slice none 0 0] 27)) := ⟨_, rfl⟩
  rw [← hW0] at e0 hc0 hrc hsz ⊢
  clear hW0
  obtain ⟨b2, hb2⟩ : ∃ b, b = w.heap.size := ⟨_, rfl⟩
  rw [← hb2] at hrc hsz ⊢
  have HRC := hid hrc
  refine (netS hc0 hq).mono ?_
  rintro e w1 ⟨vT, vL, nT, nL, zT, zL, q1, rfl, hT, hL, hwT, hwL, ⟨hn1, hn16⟩, hnL, hq1, hc1, hg1⟩
  obtain ⟨aT, cT, rfl, _, _, hTs⟩ := row_shape hT
  obtain ⟨aL, cL, rfl, _, _, hLs⟩ := row_shape hL
  obtain ⟨G, rfl, hG1, hG2⟩ := hTs.resolve_left (by omega)
  clear hTs
  go_upto_region 2 with (fail)
  obtain ⟨bs, hbs⟩ : ∃ b, b = Wa.heap.size := ⟨_, rfl⟩
  obtain ⟨b3, hb3⟩ : ∃ b, b = w1.heap.size := ⟨_, rfl⟩
  have ord : NOrd w B bs b2 b3 := ⟨hBs, by omega, by omega, by have := hg1.size; omega⟩
  obtain ⟨W1, hW1⟩ : ∃ W, W = w1.alloc (.cells #[.slice (some ⟨G, 0, none⟩) nT cT, .slice aL nL cL] 27) := ⟨_, rfl⟩
  have e1 : Ext w1 W1 := by rw [hW1]; exact (Ext.refl _).alloc _
  have N1 : NS w Wa B vc n zc bs b2 b3 W1 (.slice (some ⟨G, 0, none⟩) nT cT) nT zT (.slice aL nL cL) nL zL q1 := by
    rw [hbs]
    refine ⟨⟨?_, ?_, ?_, ?_, ?_, ⟨#[.slice (some ⟨G, 0, none⟩) nT cT, .slice aL nL cL], (0, 0), ?_⟩, row_ext hT e1, row_ext hL e1, hwT, hwL⟩, hc1.ext e1, World.grownBy.trans (e0.grown.but (some B)) (World.grownBy.trans hg1 (e1.grown.but (some B))), ?_⟩
    · rw [hW1, hb3]; simp
    · rw [hW1, hb3]; simp
    · rw [hW1, hb3]; simp
    · rw [hW1, hb3]; simp
    · rw [hW1, hb3]; simp
    · rw [hW1, hb3]; exact heap_alloc_new w1 _
    · rw [Ext.block_eq e1 (by have := hg1.size; omega)]; exact hg1.block b2 (by omega) (by simp; omega)
  have HE0 := hid e0
  have hb2' : w.heap.size ≤ b2 := by omega
  have hbs3 : bs ≤ b3 := by have := hg1.size; omega
  have hbs' : w.heap.size ≤ bs := by omega
  rw [← hW1, ← hb3, ← hb2]
  have hk5 : b2 < Wa.heap.size := by omega
  clear hW1 hb3 hbs hb2 hc0 hT hL hwT hwL hc1 hg1 e1 e0 hsz hrc h hLs hG1 hG2
  have hU := uAny_ok B b3 (.slice (some ⟨G, 0, none⟩) nT cT) (.slice aL nL cL) G nT 0 nL 0
  refine wp_region_typed' (by kernel_rfl) (CI B [] (uAny B b3 (.slice (some ⟨G, 0, none⟩) nT cT) (.slice aL nL cL) G nT 0 nL 0) vc n zc) (vT B [] (uAny B b3 (.slice (some ⟨G, 0, none⟩) nT cT) (.slice aL nL cL) G nT 0 nL 0)) (Gr B []) 100000 800000000000 (Gr.refl _ _) (fun _ _ _ h k => Gr.trans h k) (fun _ _ _ _ g h => vT_mono hU g h) (fun _ _ h => CI.ext hU h ((Ext.refl _).drew)) (fun _ => Gr.of_ext ((Ext.refl _).drew)) [([(3, (.usr 10))], (.usr 11)), ([(13, (.usr 11))], (.usr 0)), ([(0, .cur)], .cur), ([(3, (.usr 10))], (.usr 11)), ([(16, (.usr 11))], (.usr 0)), ([(17, (.usr 0))], (.usr 2)), ([(15, .cur), (18, (.usr 2))], (.usr 4)), ([(14, (.usr 0)), (19, (.usr 4))], (.usr 6)), ([(20, (.usr 6))], (.usr 6))] [(0, .cur), (3, (.usr 10))] (by kernel_rfl) (AllOk.cons (ok_fptr fN0 u10_11 rfl) (AllOk.cons (ok_loadP (et := 96) (by kernel_rfl) u11_0 rfl) (AllOk.cons (ok_move rfl) (AllOk.cons (ok_fptr fN0 u10_11 rfl) (AllOk.cons (ok_loadP (et := 96) (by kernel_rfl) u11_0 rfl) (AllOk.cons (ok_lenP (et := 96) (by kernel_rfl) u0_2 rfl) (AllOk.cons (ok_callU (enters Try.func23 (by kernel_rfl) (by kernel_rfl)) (ts := [.cur, .usr 2]) (pickUT (by omega)) rfl rfl hU) (AllOk.cons (ok_idxP idxT_run u0_4 rfl rfl) (AllOk.cons (ok_assign rfl) (trivial)))))))))) (q1) (by first | decide | (simp only [List.size_toArray, List.length_cons, List.length_nil]; omega)) ⟨N1.cs, Bx.nil _⟩ (GCons (rfl) (GCons (⟨rfl, N1.nc.lt, by have := ord.o1; have := ord.o2; have := ord.o4; omega, N1.nc.c0, N1.nc.c1⟩) GNil)) [13, 14, 15, 16, 17, 18, 19, 20, 4] (by kernel_rfl) ?_
  intro u w' q' hq' hI' hG hu
  simp only [List.size_toArray, List.length_cons, List.length_nil, Nat.reduceMul] at hq'
  obtain ⟨i, hiT, e4⟩ : ∃ i : Nat, i < nT ∧ u 4 = .pointer (some ⟨G, i * 3, none⟩) := hu 4 (.usr 6) (by kernel_rfl)
  have N2 := N1.call ord hI'.1 hG.grown
  clear hu hI' hG N1 hU
  simp only [putsAt, List.foldl_cons, List.foldl_nil, List.setIfInBounds_toArray, List.set_cons_zero, List.set_cons_succ]
  rw [e4]
  clear e4
  go_wp2_with (fail)
  refine (pickS 36 N2.cs (by omega)).mono ?_
  rintro e w3 ⟨x, q3, rfl, hx0, _, hx1, hq3, hq3', hc3, hg3⟩
  have hx1' := hx1 (by omega)
  have N3 := N2.call ord hc3 hg3
  clear N2 hc3 hg3 hx1
  go_upto_block 0 with (fail)
  go_cut [5] from 5 to 162 (fun s5 wx => ∃ (vT vL : Value) (nT nL : Nat) (zT zL : List Int) (q' : Nat), NS w Wa B vc n zc bs b2 b3 wx vT nT zT vL nL zL q' ∧ nT ≤ 17 ∧ nL ≤ 45 ∧ q' ≤ q + 200000000)
  case first =>
    by_cases c0 : x = 0
    · subst c0
      go_wp2_with (fail)
      refine (amongL [-1, 999, 1000] N3.cs (by omega) rfl (by simp) (by simp) rfl (by intro z hz; simp at hz; omega)).mono ?_
      rintro e w4 ⟨y, q4, rfl, hmem, hq4, hq4', hc4, hg4⟩
      have hwf : (Lit.int .i64 y).wf = true := wf_i64 (by simp at hmem; omega)
      have N4 := N3.call ord hc4 hg4
      clear N3 hc4 hg4 hmem
      have hct := N4.nc.cellT (j := i * 3 + 0) (by omega)
      have s0 := hct.1
      have s1 := hct.2.1
      have N5 := N4.setT ord (i * 3 + 0) hwf
      rw [Nat.add_zero] at s0 s1 N5
      go_wp2_with (fail)
      go_meet
      exact ⟨_, _, _, _, _, _, _, N5, by omega, by omega, by omega⟩
    · have tk0 : decide (x = 0) = false := by simpa using c0
      by_cases c1 : x = 1
      · subst c1
        go_wp2_with (fail)
        refine (amongL [-1, 999, 1000] N3.cs (by omega) rfl (by simp) (by simp) rfl (by intro z hz; simp at hz; omega)).mono ?_
        rintro e w4 ⟨y, q4, rfl, hmem, hq4, hq4', hc4, hg4⟩
        have hwf : (Lit.int .i64 y).wf = true := wf_i64 (by simp at hmem; omega)
        have N4 := N3.call ord hc4 hg4
        clear N3 hc4 hg4 hmem
        have hct := N4.nc.cellT (j := i * 3 + 1) (by omega)
        have s0 := hct.1
        have s1 := hct.2.1
        have N5 := N4.setT ord (i * 3 + 1) hwf
        go_wp2_with (fail)
        go_meet
        exact ⟨_, _, _, _, _, _, _, N5, by omega, by omega, by omega⟩
      · have tk1 : decide (x = 1) = false := by simpa using c1
        by_cases c2 : x = 2
        · subst c2
          go_wp2_with (fail)
          refine (amongL [-1, 500, 501] N3.cs (by omega) rfl (by simp) (by simp) rfl (by intro z hz; simp at hz; omega)).mono ?_
          rintro e w4 ⟨y, q4, rfl, hmem, hq4, hq4', hc4, hg4⟩
          have hwf : (Lit.int .i64 y).wf = true := wf_i64 (by simp at hmem; omega)
          have N4 := N3.call ord hc4 hg4
          clear N3 hc4 hg4 hmem
          have hct := N4.nc.cellT (j := i * 3 + 2) (by omega)
          have s0 := hct.1
          have s1 := hct.2.1
          have N5 := N4.setT ord (i * 3 + 2) hwf
          go_wp2_with (fail)
          go_meet
          exact ⟨_, _, _, _, _, _, _, N5, by omega, by omega, by omega⟩
        · have tk2 : decide (x = 2) = false := by simpa using c2
          by_cases c3 : x = 3
          · subst c3
            have d0 := N3.nc.c0
            have d1 := N3.nc.c1
            have d2 := N3.nc.f0
            have d3 := N3.nc.f1
            have N5 := N3.boxT (v1 := .slice none 0 0) (m := 0) (z1 := []) ord (World.ownsRow_nil _ _ _ _) (by simp)
            go_wp2_with (fail)
            go_meet
            exact ⟨_, _, _, _, _, _, _, N5, by omega, by omega, by omega⟩
          · have tk3 : decide (x = 3) = false := by simpa using c3
            by_cases c4 : x = 4
            · subst c4
              go_wp2_with (fail)
              refine (pickS 2 N3.cs (by omega)).mono ?_
              rintro e w4 ⟨y, q4, rfl, hy0', _, hy1', hq4, hq4', hc4, hg4⟩
              have hy1'' := hy1' (by omega)
              have N4 := N3.call ord hc4 hg4
              clear N3 hc4 hg4 hy1'
              obtain ⟨y, rfl⟩ := Int.eq_ofNat_of_zero_le hy0'
              obtain ⟨M, hM⟩ : ∃ M : Nat, M = 16 + y := ⟨_, rfl⟩
              have ew : IntKind.i64.wrap (16 + (y : Int)) = (M : Int) := by rw [IntWalk.i64_in _ (by omega)]; omega
              have ew2 : (16 : Int) + (y : Int) = (M : Int) := by omega
              have hM17 : M ≤ 17 := by omega
              have HM := hid hM
              clear hM
              go_wp2_with (fail)
              go_loopg [] (M - nT) (fun gk wr => ∃ (G : Nat) (cT nT' : Nat) (zT : List Int) (qr : Nat), nT' + gk = max M nT ∧ 1 ≤ nT' ∧ nT' ≤ 17 ∧ NS w Wa B vc n zc bs b2 b3 wr (.slice (some ⟨G, 0, none⟩) nT' cT) nT' zT (.slice aL nL cL) nL zL qr ∧ qr ≤ q4 + nT' * 800000)
              case atStart => exact ⟨G, cT, nT, zT, q4, by omega, hn1, by omega, N4, by omega⟩
              case round =>
                clear N4
                obtain ⟨G, cT, m, zT, qr, hm, hm1, hm17, N6, hqr⟩ := hrel
                have d0 := N6.nc.c0
                have d1 := N6.nc.c1
                have d2 := N6.nc.f0
                have d3 := N6.nc.f1
                by_cases hlt : m < M
                · have tl : decide ((m : Int) < (M : Int)) = true := by simpa using hlt
                  go_wp2_with (fail)
                  clear d0 d1 d2 d3
                  have hz0' := N6.nc.cellT (j := 0) (by omega)
                  have hz1' := N6.nc.cellT (j := 1) (by omega)
                  have hz2' := N6.nc.cellT (j := 2) (by omega)
                  have hJA : jApp B b3 0 (.slice (some ⟨G, 0, none⟩) m cT) G wr := ⟨N6.nc.lt, by have := ord.o1; have := ord.o2; have := ord.o4; omega, N6.nc.c0, (N6.nc.rT.lt G rfl).2, by have := (N6.nc.rT.lt G rfl).1; have := ord.o1; have := ord.o2; have := ord.o3; omega, _, _, _, hz0'.1, hz1'.1, hz2'.1, hz0'.2.2, hz1'.2.2, hz2'.2.2⟩
                  clear hz0' hz1' hz2'
                  have hU := uApp_ok B b3 0 (.slice (some ⟨G, 0, none⟩) m cT) G
                  have hLIT := @uApp_lit B b3 0 G (.slice (some ⟨G, 0, none⟩) m cT)
                  refine wp_region_typed_tail 7 (by kernel_rfl) (CI B [] (uApp B b3 0 (.slice (some ⟨G, 0, none⟩) m cT) G) vc n zc) (vT B [] (uApp B b3 0 (.slice (some ⟨G, 0, none⟩) m cT) G)) (Gr B []) 100000 800000000000 (fun _ _ _ h k => Gr.trans h k) (fun _ _ _ _ g h => vT_mono hU g h) (fun _ _ h => CI.ext hU h ((Ext.refl _).drew)) (fun _ => Gr.of_ext ((Ext.refl _).drew)) [([(3, (.usr 1))], (.usr 3)), ([(60, (.usr 3))], (.usr 0)), ([(3, (.usr 1))], (.usr 3)), ([(62, (.usr 3))], (.usr 0)), ([(63, (.usr 0))], (.usr 4)), ([(64, (.usr 4))], (.agg 3)), ([(65, (.agg 3))], (.usr 2))] [(3, (.usr 1))] (by kernel_rfl) (by kernel_rfl) (AllOk.cons (ok_fptr fN0 a1_3 rfl) (AllOk.cons (ok_loadP (et := 96) (by kernel_rfl) a3_0 rfl) (AllOk.cons (ok_fptr fN0 a1_3 rfl) (AllOk.cons (ok_loadP (et := 96) (by kernel_rfl) a3_0 rfl) (AllOk.cons (ok_idxC (m := m) (c := cT) (by omega) rfl idxT_run rfl) (AllOk.cons (ok_load3P (by kernel_rfl) (by kernel_rfl) rfl) (AllOk.cons (ok_lit3 (i2 := 2) (e := 96) (by kernel_rfl) (by kernel_rfl) rfl hLIT hU) (trivial)))))))) (qr) (by simp only [Nat.reduceMul]; omega) ⟨N6.cs, Bx.nil _⟩ (GCons (⟨rfl, hJA⟩) GNil) [60, 61, 62, 63, 64, 65, 66] (by kernel_rfl) ?_
                  intro u w9 q9 hq9 hI9 hG9 hu
                  simp only [Nat.reduceMul] at hq9
                  have h9 : uApp B b3 0 (.slice (some ⟨G, 0, none⟩) m cT) G 0 w9 (u 61) := hu 61 (.usr 0) (by kernel_rfl)
                  have h8 : uApp B b3 0 (.slice (some ⟨G, 0, none⟩) m cT) G 2 w9 (u 66) := hu 66 (.usr 2) (by kernel_rfl)
                  have eS : u 61 = .slice (some ⟨G, 0, none⟩) m cT := h9.1
                  obtain ⟨x0, x1, x2, y0, y1, y2, hlit, _⟩ := h8
                  clear h9
                  have NZ := N6.call ord hI9.1 hG9.grown
                  have hsz9 := NZ.nc.lt
                  have hlo := (NZ.nc.rT.lt G rfl)
                  have hne3 := NZ.nc.neT
                  have HY := hid (And.intro y0 (And.intro y1 y2))
                  clear hu hI9 hG9 hU hLIT hJA y0 y1 y2 N6
                  obtain ⟨al, cl, el⟩ := introw_slice hlit
                  refine wpList_re (by simp only [List.drop_succ_cons, List.drop_zero]; exact rfl) rfl ?_
                  generalize hfr : putsAt _ u _ = TT
                  simp only [putsAt, List.foldl_cons, List.foldl_nil, List.setIfInBounds_toArray, List.set_cons_zero, List.set_cons_succ] at hfr
                  rw [eS, el] at hfr
                  subst hfr
                  rw [el] at hlit
                  clear eS el
                  have HLIT := hid hlit
                  have HNE := hid hne3
                  clear hlit hne3
                  go_wp2_with (at_builtin; go_loud (refine wpList_src3 rfl (.tmp 61) (.tmp 66) 24 rfl bs 96 i0 _ Try.underlying24 hi hz0 hz1 hz2 rfl (.slice (some ⟨G, 0, none⟩) m cT) m (zT.map (Value.int .i64)) rfl NZ.nc.rT _ 1 [x0, x1, x2] rfl HLIT.out (by omega) (by omega) ?_; intro v1 wz hr1 hgz; obtain ⟨a1, c1', rfl, _, _, hsh1⟩ := row_shape hr1; have dz0 := (NZ.nc.appT hgz).1; have fz0 := (NZ.nc.appT hgz).2.2.1))
                  have NA := NZ.appT ord hr1 hgz HY.out.1 HY.out.2.1 HY.out.2.2
                  obtain ⟨G2, rfl, _, _⟩ := hsh1.resolve_left (by omega)
                  go_roundg (max M nT - (m + 1))
                  case measure => omega
                  case rel => exact ⟨G2, _, m + 1, _, q9, by omega, by omega, by omega, NA, by omega⟩
                · have tl : decide ((m : Int) < (M : Int)) = false := by simpa using hlt
                  go_wp2_with (fail)
                  go_meet
                  exact ⟨_, _, _, _, _, _, _, N6, by omega, by omega, by omega⟩
            · have tk4 : decide (x = 4) = false := by simpa using c4
              by_cases c5 : x = 5
              · subst c5
                have d0 := N3.nc.c0
                have d1 := N3.nc.c1
                have d2 := N3.nc.f0
                have d3 := N3.nc.f1
                by_cases hk : 0 < nL
                · have tk : decide (0 < (nL : Int)) = true := by simpa using hk
                  have tk' : decide (0 < nL) = true := by simpa using hk
                  obtain ⟨GL, rfl, _, _⟩ := (row_shape N3.nc.rL).elim (fun a h => h.elim fun c h => by
                    obtain ⟨e, _, _, hs⟩ := h
                    simp only [Value.slice.injEq, true_and] at e
                    obtain ⟨rfl, rfl⟩ := e
                    exact hs.resolve_left (by omega))
                  clear d0 d1 d2 d3
                  have d1 := N3.nc.c1
                  go_upto_region 20 with (fail)
                  clear d1
                  have hU := uAny_ok B b3 (.slice (some ⟨G, 0, none⟩) nT cT) (.slice (some ⟨GL, 0, none⟩) nL cL) G nT GL nL 0
                  refine wp_region_typed' (by kernel_rfl) (CI B [] (uAny B b3 (.slice (some ⟨G, 0, none⟩) nT cT) (.slice (some ⟨GL, 0, none⟩) nL cL) G nT GL nL 0) vc n zc) (vT B [] (uAny B b3 (.slice (some ⟨G, 0, none⟩) nT cT) (.slice (some ⟨GL, 0, none⟩) nL cL) G nT GL nL 0)) (Gr B []) 100000 800000000000 (Gr.refl _ _) (fun _ _ _ h k => Gr.trans h k) (fun _ _ _ _ g h => vT_mono hU g h) (fun _ _ h => CI.ext hU h ((Ext.refl _).drew)) (fun _ => Gr.of_ext ((Ext.refl _).drew)) [([(3, (.usr 10))], (.usr 12)), ([(77, (.usr 12))], (.usr 1)), ([(0, .cur)], .cur), ([(6, (.usr 3))], (.usr 3)), ([(79, .cur), (80, (.usr 3))], (.usr 5)), ([(78, (.usr 1)), (81, (.usr 5))], (.usr 7)), ([(82, (.usr 7))], (.usr 7))] [(0, .cur), (3, (.usr 10)), (6, (.usr 3))] (by kernel_rfl) (AllOk.cons (ok_fptr fN1 u10_12 rfl) (AllOk.cons (ok_loadP (et := 72) (by kernel_rfl) u12_1 rfl) (AllOk.cons (ok_move rfl) (AllOk.cons (ok_move rfl) (AllOk.cons (ok_callU (enters Try.func23 (by kernel_rfl) (by kernel_rfl)) (ts := [.cur, .usr 3]) (pickUL (by omega)) rfl rfl hU) (AllOk.cons (ok_idxP idxL_run u1_5 rfl rfl) (AllOk.cons (ok_assign rfl) (trivial)))))))) (q3) (by first | decide | (simp only [List.size_toArray, List.length_cons, List.length_nil]; omega)) ⟨N3.cs, Bx.nil _⟩ (GCons (rfl) (GCons (⟨rfl, N3.nc.lt, by have := ord.o1; have := ord.o2; have := ord.o4; omega, N3.nc.c0, N3.nc.c1⟩) (GCons (rfl) GNil))) [77, 78, 79, 80, 81, 82, 7] (by kernel_rfl) ?_
                  intro u w' q' hq' hI' hG hu
                  simp only [List.size_toArray, List.length_cons, List.length_nil, Nat.reduceMul] at hq'
                  obtain ⟨I, hI, e7⟩ : ∃ i : Nat, i < nL ∧ u 7 = .pointer (some ⟨GL, i * 3, none⟩) := hu 7 (.usr 7) (by kernel_rfl)
                  have N4 := N3.call ord hI'.1 hG.grown
                  clear hu hI' hG N3 hU
                  generalize hfr : putsAt _ u _ = TT
                  simp only [putsAt, List.foldl_cons, List.foldl_nil, List.setIfInBounds_toArray, List.set_cons_zero, List.set_cons_succ] at hfr
                  rw [e7] at hfr
                  subst hfr
                  clear e7
                  go_wp2_with (fail)
                  refine (pickS 4 N4.cs (by omega)).mono ?_
                  rintro e w5 ⟨y, q5, rfl, hy0', _, hy1', hq5, hq5', hc5, hg5⟩
                  have hy1'' := hy1' (by omega)
                  have N5 := N4.call ord hc5 hg5
                  clear N4 hc5 hg5 hy1'
                  by_cases e0 : y = 0
                  · subst e0
                    have hB0 := N5.nc.cellL (j := I * 3 + 1) (by omega)
                    obtain ⟨zB, hzB⟩ : ∃ z, z = zL.getD (I * 3 + 1) 0 := ⟨_, rfl⟩
                    rw [← hzB] at hB0
                    clear hzB
                    have s9 := hB0.1
                    have hzw := wf_bd hB0.2.2
                    go_wp2_with (fail)
                    refine (amongL [-1, zB] N5.cs (by omega) rfl (by simp) (by simp) rfl (by intro z hz; simp at hz; omega)).mono ?_
                    rintro e w6 ⟨z6, q6, rfl, hmem, hq6, hq6', hc6, hg6⟩
                    have hwf : (Lit.int .i64 z6).wf = true := wf_i64 (by simp at hmem; omega)
                    have N6 := N5.call ord hc6 hg6
                    clear N5 hc6 hg6 hmem s9 hB0
                    have hct := N6.nc.cellL (j := I * 3) (by omega)
                    have s0 := hct.1
                    have s1 := hct.2.1
                    have N7 := N6.setL ord (I * 3) hwf
                    go_wp2_with (fail)
                    go_meet
                    exact ⟨_, _, _, _, _, _, _, N7, by omega, by omega, by omega⟩
                  · have u0 : decide (y = 0) = false := by simpa using e0
                    by_cases e1 : y = 1
                    · subst e1
                      have hA0 := N5.nc.cellL (j := I * 3) (by omega)
                      have hU := uAny_ok B b3 (.slice (some ⟨G, 0, none⟩) nT cT) (.slice (some ⟨GL, 0, none⟩) nL cL) G nT GL nL I
                      have HA0 := hid hA0
                      clear hA0
                      go_wp2_with (fail)
                      have hA0 := HA0.out
                      refine wp_region_typed_tail 13 (by kernel_rfl) (CI B [] (uAny B b3 (.slice (some ⟨G, 0, none⟩) nT cT) (.slice (some ⟨GL, 0, none⟩) nL cL) G nT GL nL I) vc n zc) (vT B [] (uAny B b3 (.slice (some ⟨G, 0, none⟩) nT cT) (.slice (some ⟨GL, 0, none⟩) nL cL) G nT GL nL I)) (Gr B []) 100000 800000000000 (fun _ _ _ h k => Gr.trans h k) (fun _ _ _ _ g h => vT_mono hU g h) (fun _ _ h => CI.ext hU h ((Ext.refl _).drew)) (fun _ => Gr.of_ext ((Ext.refl _).drew)) [([(7, (.usr 20))], (.usr 20)), ([(0, .cur)], .cur), ([(7, (.usr 20))], (.usr 20)), ([(101, (.usr 20))], (.usr 20)), ([(102, (.usr 20))], (.usr 21)), ([(103, (.usr 21))], .int), ([(3, (.usr 10))], (.usr 11)), ([(105, (.usr 11))], (.usr 0)), ([(106, (.usr 0))], .int), ([(104, .int), (107, .int)], .list), ([(100, .cur), (108, .list)], .int), ([(99, (.usr 20))], (.usr 20)), ([(110, (.usr 20))], (.usr 22))] [(0, .cur), (3, (.usr 10)), (7, (.usr 20))] (by kernel_rfl) (by kernel_rfl) (AllOk.cons (ok_move rfl) (AllOk.cons (ok_move rfl) (AllOk.cons (ok_move rfl) (AllOk.cons (ok_nilP u20_nil rfl) (AllOk.cons (ok_fptr fL0 u20_21 rfl) (AllOk.cons (ok_loadPI (by kernel_rfl) u21_i rfl) (AllOk.cons (ok_fptr fN0 u10_11 rfl) (AllOk.cons (ok_loadP (et := 96) (by kernel_rfl) u11_0 rfl) (AllOk.cons (ok_lenI (et := 96) (by kernel_rfl) (u0_len (by omega)) rfl) (AllOk.cons (ok_list (by kernel_rfl) ⟨by decide, by decide⟩ rfl hU) (AllOk.cons (ok_call (enters Try.func34 (by kernel_rfl) (by kernel_rfl)) (amongT vc n zc) rfl rfl hU) (AllOk.cons (ok_nilP u20_nil rfl) (AllOk.cons (ok_fptr fL1 u20_22 rfl) (trivial)))))))))))))) (q5) (by simp only [Nat.reduceMul]; omega) ⟨N5.cs, Bx.nil _⟩ (GCons (rfl) (GCons (⟨rfl, N5.nc.lt, by have := ord.o1; have := ord.o2; have := ord.o4; omega, N5.nc.c0, N5.nc.c1⟩) (GCons (⟨rfl, (N5.nc.rL.lt GL rfl).2, by have := (N5.nc.rL.lt GL rfl).1; have := ord.o1; have := ord.o2; have := ord.o3; omega, _, hA0.1, hA0.2.2⟩) GNil))) [99, 100, 101, 102, 103, 104, 105, 106, 107, 108, 109, 110, 111] (by kernel_rfl) ?_
                      intro u w' q6 hq6 hI' hG hu
                      simp only [Nat.reduceMul] at hq6
                      obtain ⟨z6, e9, hwf⟩ : intV (u 109) := hu 109 .int (by kernel_rfl)
                      have e11 : u 111 = .pointer (some ⟨GL, I * 3 + 1, none⟩) := hu 111 (.usr 22) (by kernel_rfl)
                      have N6 := N5.call ord hI'.1 hG.grown
                      clear hu hI' hG N5 hU hA0 HA0
                      refine wpList_re (by simp only [List.drop_succ_cons, List.drop_zero]; exact rfl) rfl ?_
                      generalize hfr : putsAt _ u _ = TT
                      simp only [putsAt, List.foldl_cons, List.foldl_nil, List.setIfInBounds_toArray, List.set_cons_zero, List.set_cons_succ] at hfr
                      rw [e9, e11] at hfr
                      subst hfr
                      clear e9 e11
                      have hct := N6.nc.cellL (j := I * 3 + 1) (by omega)
                      have s0 := hct.1
                      have s1 := hct.2.1
                      have N7 := N6.setL ord (I * 3 + 1) hwf
                      go_wp2_with (fail)
                      go_meet
                      exact ⟨_, _, _, _, _, _, _, N7, by omega, by omega, by omega⟩
                    · have u1 : decide (y = 1) = false := by simpa using e1
                      by_cases e2 : y = 2
                      · subst e2
                        go_wp2_with (fail)
                        refine (amongL [0, 60, 61] N5.cs (by omega) rfl (by simp) (by simp) rfl (by intro z hz; simp at hz; omega)).mono ?_
                        rintro e w6 ⟨z6, q6, rfl, hmem, hq6, hq6', hc6, hg6⟩
                        have hwf : (Lit.int .i64 z6).wf = true := wf_i64 (by simp at hmem; omega)
                        have N6 := N5.call ord hc6 hg6
                        clear N5 hc6 hg6 hmem
                        have hct := N6.nc.cellL (j := I * 3 + 2) (by omega)
                        have s0 := hct.1
                        have s1 := hct.2.1
                        have N7 := N6.setL ord (I * 3 + 2) hwf
                        go_wp2_with (fail)
                        go_meet
                        exact ⟨_, _, _, _, _, _, _, N7, by omega, by omega, by omega⟩
                      · obtain rfl : y = 3 := by omega
                        go_wp2_with (fail)
                        have hz0' := N5.nc.cellL (j := 0) (by omega)
                        have hz1' := N5.nc.cellL (j := 1) (by omega)
                        have hz2' := N5.nc.cellL (j := 2) (by omega)
                        have hJA : jApp B b3 1 (.slice (some ⟨GL, 0, none⟩) nL cL) GL w5 := ⟨N5.nc.lt, by have := ord.o1; have := ord.o2; have := ord.o4; omega, N5.nc.c1, (N5.nc.rL.lt GL rfl).2, by have := (N5.nc.rL.lt GL rfl).1; have := ord.o1; have := ord.o2; have := ord.o3; omega, _, _, _, hz0'.1, hz1'.1, hz2'.1, hz0'.2.2, hz1'.2.2, hz2'.2.2⟩
                        clear hz0' hz1' hz2'
                        have hU := uApp_ok B b3 1 (.slice (some ⟨GL, 0, none⟩) nL cL) GL
                        have hLIT := @uApp_lit B b3 1 GL (.slice (some ⟨GL, 0, none⟩) nL cL)
                        refine wp_region_typed_tail 7 (by kernel_rfl) (CI B [] (uApp B b3 1 (.slice (some ⟨GL, 0, none⟩) nL cL) GL) vc n zc) (vT B [] (uApp B b3 1 (.slice (some ⟨GL, 0, none⟩) nL cL) GL)) (Gr B []) 100000 800000000000 (fun _ _ _ h k => Gr.trans h k) (fun _ _ _ _ g h => vT_mono hU g h) (fun _ _ h => CI.ext hU h ((Ext.refl _).drew)) (fun _ => Gr.of_ext ((Ext.refl _).drew)) [([(3, (.usr 1))], (.usr 3)), ([(122, (.usr 3))], (.usr 0)), ([(3, (.usr 1))], (.usr 3)), ([(124, (.usr 3))], (.usr 0)), ([(125, (.usr 0))], (.usr 4)), ([(126, (.usr 4))], (.agg 3)), ([(127, (.agg 3))], (.usr 2))] [(3, (.usr 1))] (by kernel_rfl) (by kernel_rfl) (AllOk.cons (ok_fptr fN1 a1_3 rfl) (AllOk.cons (ok_loadP (et := 72) (by kernel_rfl) a3_0 rfl) (AllOk.cons (ok_fptr fN1 a1_3 rfl) (AllOk.cons (ok_loadP (et := 72) (by kernel_rfl) a3_0 rfl) (AllOk.cons (ok_idxC (m := nL) (c := cL) (by omega) rfl idxL_run rfl) (AllOk.cons (ok_load3P (by kernel_rfl) (by kernel_rfl) rfl) (AllOk.cons (ok_lit3 (i2 := 2) (e := 72) (by kernel_rfl) (by kernel_rfl) rfl hLIT hU) (trivial)))))))) (q5) (by simp only [Nat.reduceMul]; omega) ⟨N5.cs, Bx.nil _⟩ (GCons (⟨rfl, hJA⟩) GNil) [122, 123, 124, 125, 126, 127, 128] (by kernel_rfl) ?_
                        intro u w9 q9 hq9 hI9 hG9 hu
                        simp only [Nat.reduceMul] at hq9
                        have h9 : uApp B b3 1 (.slice (some ⟨GL, 0, none⟩) nL cL) GL 0 w9 (u 123) := hu 123 (.usr 0) (by kernel_rfl)
                        have h8 : uApp B b3 1 (.slice (some ⟨GL, 0, none⟩) nL cL) GL 2 w9 (u 128) := hu 128 (.usr 2) (by kernel_rfl)
                        have eS : u 123 = .slice (some ⟨GL, 0, none⟩) nL cL := h9.1
                        obtain ⟨x0, x1, x2, y0, y1, y2, hlit, _⟩ := h8
                        clear h9
                        have NZ := N5.call ord hI9.1 hG9.grown
                        have hsz9 := NZ.nc.lt
                        have hlo := (NZ.nc.rL.lt GL rfl)
                        have hne3 := NZ.nc.neL
                        have HY := hid (And.intro y0 (And.intro y1 y2))
                        clear hu hI9 hG9 hU hLIT hJA y0 y1 y2 N5
                        obtain ⟨al, cl, el⟩ := introw_slice hlit
                        refine wpList_re (by simp only [List.drop_succ_cons, List.drop_zero]; exact rfl) rfl ?_
                        generalize hfr : putsAt _ u _ = TT
                        simp only [putsAt, List.foldl_cons, List.foldl_nil, List.setIfInBounds_toArray, List.set_cons_zero, List.set_cons_succ] at hfr
                        rw [eS, el] at hfr
                        subst hfr
                        rw [el] at hlit
                        clear eS el
                        have HLIT := hid hlit
                        have HNE := hid hne3
                        clear hlit hne3
                        go_wp2_with (at_builtin; go_loud (refine wpList_src3 rfl (.tmp 123) (.tmp 128) 25 rfl bs 72 j0 _ Try.underlying25 hj hy0 hy1 hy2 rfl (.slice (some ⟨GL, 0, none⟩) nL cL) nL (zL.map (Value.int .i64)) rfl NZ.nc.rL _ 1 [x0, x1, x2] rfl HLIT.out (by omega) (by omega) ?_; intro v1 wz hr1 hgz; obtain ⟨a1, c1', rfl, _, _, hsh1⟩ := row_shape hr1; have dz0 := (NZ.nc.appL hgz).2.1; have fz0 := (NZ.nc.appL hgz).2.2.2.1))
                        have NA := NZ.appL ord hr1 hgz HY.out.1 HY.out.2.1 HY.out.2.2
                        go_wp2_with (fail)
                        go_meet
                        exact ⟨_, _, _, _, _, _, _, NA, by omega, by omega, by omega⟩
                · obtain rfl : nL = 0 := by omega
                  go_wp2_with (fail)
                  go_meet
                  exact ⟨_, _, _, _, _, _, _, N3, by omega, by omega, by omega⟩
              · have tk5 : decide (x = 5) = false := by simpa using c5
                by_cases c6 : x = 6
                · subst c6
                  have d0 := N3.nc.c0
                  have d1 := N3.nc.c1
                  have d2 := N3.nc.f0
                  have d3 := N3.nc.f1
                  by_cases hk : 0 < nL
                  · have tk : decide (0 < (nL : Int)) = true := by simpa using hk
                    have tk' : decide (0 < nL) = true := by simpa using hk
                    obtain ⟨GL, rfl, _, _⟩ := (row_shape N3.nc.rL).elim (fun a h => h.elim fun c h => by
                      obtain ⟨e, _, _, hs⟩ := h
                      simp only [Value.slice.injEq, true_and] at e
                      obtain ⟨rfl, rfl⟩ := e
                      exact hs.resolve_left (by omega))
                    clear d0 d1 d2 d3
                    have d1 := N3.nc.c1
                    go_upto_region 20 with (fail)
                    clear d1
                    have hU := uAny_ok B b3 (.slice (some ⟨G, 0, none⟩) nT cT) (.slice (some ⟨GL, 0, none⟩) nL cL) G nT GL nL 0
                    refine wp_region_typed' (by kernel_rfl) (CI B [] (uAny B b3 (.slice (some ⟨G, 0, none⟩) nT cT) (.slice (some ⟨GL, 0, none⟩) nL cL) G nT GL nL 0) vc n zc) (vT B [] (uAny B b3 (.slice (some ⟨G, 0, none⟩) nT cT) (.slice (some ⟨GL, 0, none⟩) nL cL) G nT GL nL 0)) (Gr B []) 100000 800000000000 (Gr.refl _ _) (fun _ _ _ h k => Gr.trans h k) (fun _ _ _ _ g h => vT_mono hU g h) (fun _ _ h => CI.ext hU h ((Ext.refl _).drew)) (fun _ => Gr.of_ext ((Ext.refl _).drew)) [([(3, (.usr 10))], (.usr 12)), ([(77, (.usr 12))], (.usr 1)), ([(0, .cur)], .cur), ([(6, (.usr 3))], (.usr 3)), ([(79, .cur), (80, (.usr 3))], (.usr 5)), ([(78, (.usr 1)), (81, (.usr 5))], (.usr 7)), ([(82, (.usr 7))], (.usr 7))] [(0, .cur), (3, (.usr 10)), (6, (.usr 3))] (by kernel_rfl) (AllOk.cons (ok_fptr fN1 u10_12 rfl) (AllOk.cons (ok_loadP (et := 72) (by kernel_rfl) u12_1 rfl) (AllOk.cons (ok_move rfl) (AllOk.cons (ok_move rfl) (AllOk.cons (ok_callU (enters Try.func23 (by kernel_rfl) (by kernel_rfl)) (ts := [.cur, .usr 3]) (pickUL (by omega)) rfl rfl hU) (AllOk.cons (ok_idxP idxL_run u1_5 rfl rfl) (AllOk.cons (ok_assign rfl) (trivial)))))))) (q3) (by first | decide | (simp only [List.size_toArray, List.length_cons, List.length_nil]; omega)) ⟨N3.cs, Bx.nil _⟩ (GCons (rfl) (GCons (⟨rfl, N3.nc.lt, by have := ord.o1; have := ord.o2; have := ord.o4; omega, N3.nc.c0, N3.nc.c1⟩) (GCons (rfl) GNil))) [77, 78, 79, 80, 81, 82, 7] (by kernel_rfl) ?_
                    intro u w' q' hq' hI' hG hu
                    simp only [List.size_toArray, List.length_cons, List.length_nil, Nat.reduceMul] at hq'
                    obtain ⟨I, hI, e7⟩ : ∃ i : Nat, i < nL ∧ u 7 = .pointer (some ⟨GL, i * 3, none⟩) := hu 7 (.usr 7) (by kernel_rfl)
                    have N4 := N3.call ord hI'.1 hG.grown
                    clear hu hI' hG N3 hU
                    generalize hfr : putsAt _ u _ = TT
                    simp only [putsAt, List.foldl_cons, List.foldl_nil, List.setIfInBounds_toArray, List.set_cons_zero, List.set_cons_succ] at hfr
                    rw [e7] at hfr
                    subst hfr
                    clear e7
                    go_wp2_with (fail)
                    refine (pickS 4 N4.cs (by omega)).mono ?_
                    rintro e w5 ⟨y, q5, rfl, hy0', _, hy1', hq5, hq5', hc5, hg5⟩
                    have hy1'' := hy1' (by omega)
                    have N5 := N4.call ord hc5 hg5
                    clear N4 hc5 hg5 hy1'
                    by_cases e0 : y = 0
                    · subst e0
                      have hB0 := N5.nc.cellL (j := I * 3 + 1) (by omega)
                      obtain ⟨zB, hzB⟩ : ∃ z, z = zL.getD (I * 3 + 1) 0 := ⟨_, rfl⟩
                      rw [← hzB] at hB0
                      clear hzB
                      have s9 := hB0.1
                      have hzw := wf_bd hB0.2.2
                      go_wp2_with (fail)
                      refine (amongL [-1, zB] N5.cs (by omega) rfl (by simp) (by simp) rfl (by intro z hz; simp at hz; omega)).mono ?_
                      rintro e w6 ⟨z6, q6, rfl, hmem, hq6, hq6', hc6, hg6⟩
                      have hwf : (Lit.int .i64 z6).wf = true := wf_i64 (by simp at hmem; omega)
                      have N6 := N5.call ord hc6 hg6
                      clear N5 hc6 hg6 hmem s9 hB0
                      have hct := N6.nc.cellL (j := I * 3) (by omega)
                      have s0 := hct.1
                      have s1 := hct.2.1
                      have N7 := N6.setL ord (I * 3) hwf
                      go_wp2_with (fail)
                      go_meet
                      exact ⟨_, _, _, _, _, _, _, N7, by omega, by omega, by omega⟩
                    · have u0 : decide (y = 0) = false := by simpa using e0
                      by_cases e1 : y = 1
                      · subst e1
                        have hA0 := N5.nc.cellL (j := I * 3) (by omega)
                        have hU := uAny_ok B b3 (.slice (some ⟨G, 0, none⟩) nT cT) (.slice (some ⟨GL, 0, none⟩) nL cL) G nT GL nL I
                        have HA0 := hid hA0
                        clear hA0
                        go_wp2_with (fail)
                        have hA0 := HA0.out
                        refine wp_region_typed_tail 13 (by kernel_rfl) (CI B [] (uAny B b3 (.slice (some ⟨G, 0, none⟩) nT cT) (.slice (some ⟨GL, 0, none⟩) nL cL) G nT GL nL I) vc n zc) (vT B [] (uAny B b3 (.slice (some ⟨G, 0, none⟩) nT cT) (.slice (some ⟨GL, 0, none⟩) nL cL) G nT GL nL I)) (Gr B []) 100000 800000000000 (fun _ _ _ h k => Gr.trans h k) (fun _ _ _ _ g h => vT_mono hU g h) (fun _ _ h => CI.ext hU h ((Ext.refl _).drew)) (fun _ => Gr.of_ext ((Ext.refl _).drew)) [([(7, (.usr 20))], (.usr 20)), ([(0, .cur)], .cur), ([(7, (.usr 20))], (.usr 20)), ([(101, (.usr 20))], (.usr 20)), ([(102, (.usr 20))], (.usr 21)), ([(103, (.usr 21))], .int), ([(3, (.usr 10))], (.usr 11)), ([(105, (.usr 11))], (.usr 0)), ([(106, (.usr 0))], .int), ([(104, .int), (107, .int)], .list), ([(100, .cur), (108, .list)], .int), ([(99, (.usr 20))], (.usr 20)), ([(110, (.usr 20))], (.usr 22))] [(0, .cur), (3, (.usr 10)), (7, (.usr 20))] (by kernel_rfl) (by kernel_rfl) (AllOk.cons (ok_move rfl) (AllOk.cons (ok_move rfl) (AllOk.cons (ok_move rfl) (AllOk.cons (ok_nilP u20_nil rfl) (AllOk.cons (ok_fptr fL0 u20_21 rfl) (AllOk.cons (ok_loadPI (by kernel_rfl) u21_i rfl) (AllOk.cons (ok_fptr fN0 u10_11 rfl) (AllOk.cons (ok_loadP (et := 96) (by kernel_rfl) u11_0 rfl) (AllOk.cons (ok_lenI (et := 96) (by kernel_rfl) (u0_len (by omega)) rfl) (AllOk.cons (ok_list (by kernel_rfl) ⟨by decide, by decide⟩ rfl hU) (AllOk.cons (ok_call (enters Try.func34 (by kernel_rfl) (by kernel_rfl)) (amongT vc n zc) rfl rfl hU) (AllOk.cons (ok_nilP u20_nil rfl) (AllOk.cons (ok_fptr fL1 u20_22 rfl) (trivial)))))))))))))) (q5) (by simp only [Nat.reduceMul]; omega) ⟨N5.cs, Bx.nil _⟩ (GCons (rfl) (GCons (⟨rfl, N5.nc.lt, by have := ord.o1; have := ord.o2; have := ord.o4; omega, N5.nc.c0, N5.nc.c1⟩) (GCons (⟨rfl, (N5.nc.rL.lt GL rfl).2, by have := (N5.nc.rL.lt GL rfl).1; have := ord.o1; have := ord.o2; have := ord.o3; omega, _, hA0.1, hA0.2.2⟩) GNil))) [99, 100, 101, 102, 103, 104, 105, 106, 107, 108, 109, 110, 111] (by kernel_rfl) ?_
                        intro u w' q6 hq6 hI' hG hu
                        simp only [Nat.reduceMul] at hq6
                        obtain ⟨z6, e9, hwf⟩ : intV (u 109) := hu 109 .int (by kernel_rfl)
                        have e11 : u 111 = .pointer (some ⟨GL, I * 3 + 1, none⟩) := hu 111 (.usr 22) (by kernel_rfl)
                        have N6 := N5.call ord hI'.1 hG.grown
                        clear hu hI' hG N5 hU hA0 HA0
                        refine wpList_re (by simp only [List.drop_succ_cons, List.drop_zero]; exact rfl) rfl ?_
                        generalize hfr : putsAt _ u _ = TT
                        simp only [putsAt, List.foldl_cons, List.foldl_nil, List.setIfInBounds_toArray, List.set_cons_zero, List.set_cons_succ] at hfr
                        rw [e9, e11] at hfr
                        subst hfr
                        clear e9 e11
                        have hct := N6.nc.cellL (j := I * 3 + 1) (by omega)
                        have s0 := hct.1
                        have s1 := hct.2.1
                        have N7 := N6.setL ord (I * 3 + 1) hwf
                        go_wp2_with (fail)
                        go_meet
                        exact ⟨_, _, _, _, _, _, _, N7, by omega, by omega, by omega⟩
                      · have u1 : decide (y = 1) = false := by simpa using e1
                        by_cases e2 : y = 2
                        · subst e2
                          go_wp2_with (fail)
                          refine (amongL [0, 60, 61] N5.cs (by omega) rfl (by simp) (by simp) rfl (by intro z hz; simp at hz; omega)).mono ?_
                          rintro e w6 ⟨z6, q6, rfl, hmem, hq6, hq6', hc6, hg6⟩
                          have hwf : (Lit.int .i64 z6).wf = true := wf_i64 (by simp at hmem; omega)
                          have N6 := N5.call ord hc6 hg6
                          clear N5 hc6 hg6 hmem
                          have hct := N6.nc.cellL (j := I * 3 + 2) (by omega)
                          have s0 := hct.1
                          have s1 := hct.2.1
                          have N7 := N6.setL ord (I * 3 + 2) hwf
                          go_wp2_with (fail)
                          go_meet
                          exact ⟨_, _, _, _, _, _, _, N7, by omega, by omega, by omega⟩
                        · obtain rfl : y = 3 := by omega
                          go_wp2_with (fail)
                          have hz0' := N5.nc.cellL (j := 0) (by omega)
                          have hz1' := N5.nc.cellL (j := 1) (by omega)
                          have hz2' := N5.nc.cellL (j := 2) (by omega)
                          have hJA : jApp B b3 1 (.slice (some ⟨GL, 0, none⟩) nL cL) GL w5 := ⟨N5.nc.lt, by have := ord.o1; have := ord.o2; have := ord.o4; omega, N5.nc.c1, (N5.nc.rL.lt GL rfl).2, by have := (N5.nc.rL.lt GL rfl).1; have := ord.o1; have := ord.o2; have := ord.o3; omega, _, _, _, hz0'.1, hz1'.1, hz2'.1, hz0'.2.2, hz1'.2.2, hz2'.2.2⟩
                          clear hz0' hz1' hz2'
                          have hU := uApp_ok B b3 1 (.slice (some ⟨GL, 0, none⟩) nL cL) GL
                          have hLIT := @uApp_lit B b3 1 GL (.slice (some ⟨GL, 0, none⟩) nL cL)
                          refine wp_region_typed_tail 7 (by kernel_rfl) (CI B [] (uApp B b3 1 (.slice (some ⟨GL, 0, none⟩) nL cL) GL) vc n zc) (vT B [] (uApp B b3 1 (.slice (some ⟨GL, 0, none⟩) nL cL) GL)) (Gr B []) 100000 800000000000 (fun _ _ _ h k => Gr.trans h k) (fun _ _ _ _ g h => vT_mono hU g h) (fun _ _ h => CI.ext hU h ((Ext.refl _).drew)) (fun _ => Gr.of_ext ((Ext.refl _).drew)) [([(3, (.usr 1))], (.usr 3)), ([(122, (.usr 3))], (.usr 0)), ([(3, (.usr 1))], (.usr 3)), ([(124, (.usr 3))], (.usr 0)), ([(125, (.usr 0))], (.usr 4)), ([(126, (.usr 4))], (.agg 3)), ([(127, (.agg 3))], (.usr 2))] [(3, (.usr 1))] (by kernel_rfl) (by kernel_rfl) (AllOk.cons (ok_fptr fN1 a1_3 rfl) (AllOk.cons (ok_loadP (et := 72) (by kernel_rfl) a3_0 rfl) (AllOk.cons (ok_fptr fN1 a1_3 rfl) (AllOk.cons (ok_loadP (et := 72) (by kernel_rfl) a3_0 rfl) (AllOk.cons (ok_idxC (m := nL) (c := cL) (by omega) rfl idxL_run rfl) (AllOk.cons (ok_load3P (by kernel_rfl) (by kernel_rfl) rfl) (AllOk.cons (ok_lit3 (i2 := 2) (e := 72) (by kernel_rfl) (by kernel_rfl) rfl hLIT hU) (trivial)))))))) (q5) (by simp only [Nat.reduceMul]; omega) ⟨N5.cs, Bx.nil _⟩ (GCons (⟨rfl, hJA⟩) GNil) [122, 123, 124, 125, 126, 127, 128] (by kernel_rfl) ?_
                          intro u w9 q9 hq9 hI9 hG9 hu
                          simp only [Nat.reduceMul] at hq9
                          have h9 : uApp B b3 1 (.slice (some ⟨GL, 0, none⟩) nL cL) GL 0 w9 (u 123) := hu 123 (.usr 0) (by kernel_rfl)
                          have h8 : uApp B b3 1 (.slice (some ⟨GL, 0, none⟩) nL cL) GL 2 w9 (u 128) := hu 128 (.usr 2) (by kernel_rfl)
                          have eS : u 123 = .slice (some ⟨GL, 0, none⟩) nL cL := h9.1
                          obtain ⟨x0, x1, x2, y0, y1, y2, hlit, _⟩ := h8
                          clear h9
                          have NZ := N5.call ord hI9.1 hG9.grown
                          have hsz9 := NZ.nc.lt
                          have hlo := (NZ.nc.rL.lt GL rfl)
                          have hne3 := NZ.nc.neL
                          have HY := hid (And.intro y0 (And.intro y1 y2))
                          clear hu hI9 hG9 hU hLIT hJA y0 y1 y2 N5
                          obtain ⟨al, cl, el⟩ := introw_slice hlit
                          refine wpList_re (by simp only [List.drop_succ_cons, List.drop_zero]; exact rfl) rfl ?_
                          generalize hfr : putsAt _ u _ = TT
                          simp only [putsAt, List.foldl_cons, List.foldl_nil, List.setIfInBounds_toArray, List.set_cons_zero, List.set_cons_succ] at hfr
                          rw [eS, el] at hfr
                          subst hfr
                          rw [el] at hlit
                          clear eS el
                          have HLIT := hid hlit
                          have HNE := hid hne3
                          clear hlit hne3
                          go_wp2_with (at_builtin; go_loud (refine wpList_src3 rfl (.tmp 123) (.tmp 128) 25 rfl bs 72 j0 _ Try.underlying25 hj hy0 hy1 hy2 rfl (.slice (some ⟨GL, 0, none⟩) nL cL) nL (zL.map (Value.int .i64)) rfl NZ.nc.rL _ 1 [x0, x1, x2] rfl HLIT.out (by omega) (by omega) ?_; intro v1 wz hr1 hgz; obtain ⟨a1, c1', rfl, _, _, hsh1⟩ := row_shape hr1; have dz0 := (NZ.nc.appL hgz).2.1; have fz0 := (NZ.nc.appL hgz).2.2.2.1))
                          have NA := NZ.appL ord hr1 hgz HY.out.1 HY.out.2.1 HY.out.2.2
                          go_wp2_with (fail)
                          go_meet
                          exact ⟨_, _, _, _, _, _, _, NA, by omega, by omega, by omega⟩
                  · obtain rfl : nL = 0 := by omega
                    go_wp2_with (fail)
                    go_meet
                    exact ⟨_, _, _, _, _, _, _, N3, by omega, by omega, by omega⟩
                · have tk6 : decide (x = 6) = false := by simpa using c6
                  by_cases c7 : x = 7
                  · subst c7
                    have d0 := N3.nc.c0
                    have d1 := N3.nc.c1
                    have d2 := N3.nc.f0
                    have d3 := N3.nc.f1
                    clear d0 d1
                    have d0 := N3.nc.c0
                    have d1 := N3.nc.c1
                    go_wp2_with (first | (at_make; refine wpList_make_full _ rfl _ _ 24 rfl w3.heap.size 96 i0 _ 3 Try.underlying24 hi hz0 hz1 .i64 .i64 _ _ 10 rfl rfl rfl rfl (by rw [hz2]; omega) (by unfold maxLen; omega) (Nat.le_refl _) ?_; intro wm hrm hgm; have em : Ext w3 wm := (Ext.refl _).of_grown hgm; obtain ⟨m0, m1, m2, m3⟩ : wm.cell? ⟨b3, 0, none⟩ = some (.slice (some ⟨G, 0, none⟩) nT cT) ∧ wm.cell? ⟨b3, 1, none⟩ = some (.slice aL nL cL) ∧ wm.frozen? ⟨b3, 0, none⟩ = false ∧ wm.frozen? ⟨b3, 1, none⟩ = false := ⟨(by rw [(Ext.cells em).1 _ _ N3.nc.lt]; exact d0), (by rw [(Ext.cells em).1 _ _ N3.nc.lt]; exact d1), (by rw [(Ext.cells em).2 _ _ N3.nc.lt]; exact d2), (by rw [(Ext.cells em).2 _ _ N3.nc.lt]; exact d3)⟩))
                    rw [made30] at hrm
                    have Nm := N3.call ord (N3.cs.ext em) (em.grown.but (some B))
                    have hrm' := row_mono hrm (show bs ≤ w3.heap.size by have := N3.nc.lt; omega)
                    have NB1 := (Nm.boxT ord hrm' (by intro z hz; rw [List.mem_replicate] at hz; rw [hz.2]; decide)).boxL (v1 := .slice none 0 0) (m := 0) (z1 := []) ord (World.ownsRow_nil _ _ _ _) (by simp)
                    obtain ⟨GG, hGG⟩ : ∃ g, g = w3.heap.size := ⟨_, rfl⟩
                    rw [← hGG] at NB1 ⊢
                    clear hGG hrm hrm' Nm m0 m1 m2 m3 em hgm d0 d1 d2 d3 N3
                    generalize (wm.setCell ⟨b3, 0, none⟩ (.slice (some ⟨GG, 0, none⟩) 10 10)).setCell ⟨b3, 1, none⟩ (.slice none 0 0) = wn at NB1 ⊢
                    refine (pickS 2 NB1.cs (by omega)).mono ?_
                    rintro e w4 ⟨y, q4, rfl, hy0', _, hy1', hq4, hq4', hc4, hg4⟩
                    have hy1'' := hy1' (by omega)
                    have N4 := NB1.call ord hc4 hg4
                    clear NB1 hc4 hg4 hy1'
                    obtain ⟨y, rfl⟩ := Int.eq_ofNat_of_zero_le hy0'
                    obtain ⟨M, hM⟩ : ∃ M : Nat, M = 40 + y := ⟨_, rfl⟩
                    have ew : IntKind.i64.wrap (40 + (y : Int)) = (M : Int) := by rw [IntWalk.i64_in _ (by omega)]; omega
                    have ew2 : (40 : Int) + (y : Int) = (M : Int) := by omega
                    have hM17 : M ≤ 41 := by omega
                    have HM := hid hM
                    clear hM
                    go_wp2_with (fail)
                    go_loopg [9] 10 (fun gk sa wr => ∃ (a : Nat) (vL : Value) (nL : Nat) (zL : List Int), a + gk = 10 ∧ sa = .int .i64 (a : Int) ∧ nL ≤ M ∧ NS w Wa B vc n zc bs b2 b3 wr (.slice (some ⟨GG, 0, none⟩) 10 10) 10 (List.replicate 30 0) vL nL zL q4)
                    case atStart => exact ⟨0, _, 0, [], rfl, rfl, by omega, N4⟩
                    case round =>
                      clear N4
                      obtain ⟨a, vL, nL, zL, ha, rfl, hnL, N6⟩ := hrel
                      obtain ⟨wo, hwo⟩ : ∃ wo : World, wo = wr := ⟨_, rfl⟩
                      subst hwo
                      obtain ⟨ga, hgae⟩ : ∃ g : Nat, g = gk := ⟨_, rfl⟩
                      subst hgae
                      by_cases hlt : a < 10
                      · have tl : decide ((a : Int) < 10) = true := by simp; omega
                        have ea : IntKind.i64.wrap ((a : Int) + 1) = (a : Int) + 1 := IntWalk.i64_in _ (by omega)
                        go_wp2_with (fail)
                        go_loopg [10] (10 - (a + 1)) (fun gk sb wr => ∃ (b : Nat) (vL : Value) (nL : Nat) (zL : List Int), a + 1 ≤ b ∧ b + gk = 10 ∧ sb = .int .i64 (b : Int) ∧ nL ≤ M ∧ NS w Wa B vc n zc bs b2 b3 wr (.slice (some ⟨GG, 0, none⟩) 10 10) 10 (List.replicate 30 0) vL nL zL q4)
                        case atStart => exact ⟨a + 1, vL, nL, zL, by omega, by omega, by first | rfl | go_num, hnL, N6⟩
                        case round =>
                          clear N6 hnL
                          obtain ⟨b, vL, nL, zL, hb1, hb2, rfl, hnL, N7⟩ := hrel
                          obtain ⟨aL, cL, rfl, _, _, _⟩ := row_shape N7.nc.rL
                          have d0 := N7.nc.c0
                          have d1 := N7.nc.c1
                          have d3 := N7.nc.f1
                          by_cases hlb : b < 10
                          · have t1 : decide ((b : Int) < 10) = true := by simp; omega
                            by_cases hl40 : nL < M
                            · have t2 : decide ((nL : Int) < (M : Int)) = true := by simp; omega
                              have wa1 : (Lit.int .i64 (a : Int)).wf = true := wf_i64 (by omega)
                              have wb1 : (Lit.int .i64 (b : Int)).wf = true := wf_i64 (by omega)
                              have w51 : (Lit.int .i64 (5 : Int)).wf = true := by decide
                              have e8 : Ext wr (wr.alloc (.cells #[.int .i64 (a : Int), .int .i64 (b : Int), .int .i64 5] 72)) := (Ext.refl _).alloc _
                              have N8 := N7.call ord (N7.cs.ext e8) (e8.grown.but (some B))
                              have hlit := lit3_row wr (a : Int) (b : Int) 5 72 wa1 wb1 w51
                              have hsz8 := N8.nc.lt
                              have HLIT := hid hlit
                              have HW3 := hid (And.intro wa1 (And.intro wb1 w51))
                              clear wa1 wb1 w51 hlit e8
                              go_wp2_with (at_builtin; go_loud (refine wpList_src3 rfl (.tmp 156) (.tmp 160) 25 rfl bs 72 j0 _ Try.underlying25 hj hy0 hy1 hy2 rfl (.slice aL nL cL) nL (zL.map (Value.int .i64)) rfl N8.nc.rL _ 1 [(a : Int), (b : Int), 5] rfl HLIT.out (by omega) (by omega) ?_; intro v1 wz hr1 hgz; obtain ⟨a1, c1', rfl, _, _, hsh1⟩ := row_shape hr1; have dz1 := (N8.nc.appL hgz).2.1; have fz1 := (N8.nc.appL hgz).2.2.2.1))
                              have NA := N8.appL ord hr1 hgz HW3.out.1 HW3.out.2.1 HW3.out.2.2
                              go_roundg (10 - (b + 1))
                              case measure => omega
                              case rel => exact ⟨b + 1, _, nL + 1, _, by omega, by omega, by go_num, by omega, NA⟩
                            · have t2 : decide ((nL : Int) < (M : Int)) = false := by simp; omega
                              go_wp2_with (fail)
                              go_roundg (10 - (a + 1))
                              case measure => omega
                              case rel => exact ⟨a + 1, _, nL, zL, by omega, by go_num, hnL, N7⟩
                          · have t1 : decide ((b : Int) < 10) = false := by simp; omega
                            go_wp2_with (fail)
                            go_roundg (10 - (a + 1))
                            case measure => omega
                            case rel => exact ⟨a + 1, _, nL, zL, by omega, by go_num, hnL, N7⟩
                      · have tl : decide ((a : Int) < 10) = false := by simp; omega
                        go_wp2_with (fail)
                        go_meet
                        exact ⟨_, _, _, _, _, _, _, N6, by omega, by omega, by omega⟩
                  · have tk7 : decide (x = 7) = false := by simpa using c7
                    go_wp2_with (fail)
                    go_meet
                    exact ⟨_, _, _, _, _, _, _, N3, by omega, by omega, by omega⟩
  case rest =>
  obtain ⟨vT', vL', nT', nL', zT', zL', q9, N9, h17, h45, hq9⟩ := hcut
  obtain ⟨aT', cT', rfl, _, _, _⟩ := row_shape N9.nc.rT
  obtain ⟨aL', cL', rfl, _, _, _⟩ := row_shape N9.nc.rL
  obtain ⟨r0, r1, r2, r3⟩ := HRC.out
  have d0 := N9.nc.c0
  have d1 := N9.nc.c1
  have s0 : wc.cell? ⟨b2, 0, none⟩ = some (.slice none 0 0) := (World.cell?_of_block N9.b2).trans r0
  have s1 : wc.cell? ⟨b2, 1, none⟩ = some (.slice none 0 0) := (World.cell?_of_block N9.b2).trans r1
  have s2 : wc.frozen? ⟨b2, 0, none⟩ = false := (World.frozen?_of_block N9.b2).trans r2
  have s3 : wc.frozen? ⟨b2, 1, none⟩ = false := (World.frozen?_of_block N9.b2).trans r3
  clear N3 r0 r1 r2 r3
  go_wp2_with (fail)
  obtain ⟨o1, o2, o3, o4⟩ := ord
  refine bodyPost_ret (v := .agg #[.slice aT' nT' cT', .slice aL' nL' cL']) (by simp [results, Try.results47, go_sem, *]) rfl ⟨_, _, nT', nL', zT', zL', q9, rfl, ?_, ?_, N9.nc.wT, N9.nc.wL, h17, h45, by omega, ?_, ?_⟩
  · exact row_mono (row_setc (row_setc N9.nc.rT (fun k hk => by have := (N9.nc.rT.lt k hk).1; omega)) (fun k hk => by have := (N9.nc.rT.lt k hk).1; omega)) hbs'
  · exact row_mono (row_setc (row_setc N9.nc.rL (fun k hk => by have := (N9.nc.rL.lt k hk).1; omega)) (fun k hk => by have := (N9.nc.rL.lt k hk).1; omega)) hbs'
  · exact (N9.cs.set (by omega) 0 _).set (by omega) 1 _
  · exact grow_set (grow_set N9.gr hb2' 0 _) hb2' 1 _

end Go.Proofs.Ytjmbhlhkjjinbaa