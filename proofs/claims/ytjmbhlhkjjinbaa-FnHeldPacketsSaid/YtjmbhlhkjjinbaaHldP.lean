/- The chapter of fog: fogs cloned; adding a fog: the program. Conditions: the fogs are valid, the further one too. The chapter of fog: adding a fog: the program. Conditions: the net and the fogs are valid, the further one too. -/
import Derived.Test.YtjmbhlhkjjinbaaHldN
import Derived.Lib.SliceRun
import Derived.Test.YtjmbhlhkjjinbaaHldE
namespace Go.Proofs.Ytjmbhlhkjjinbaa
open Go.RowKit
set_option linter.unusedSimpArgs false
set_option linter.unusedVariables false
open Go.Shelf Go.Sort

set_option maxRecDepth 100000 in
set_option maxHeartbeats 800000 in
theorem cloneFogs_any (v : Value) (n : Nat) (z : List Int) (w : World) (h : IntRow .i64 3 w v n z) (hn : n ≤ 1000000) :
    Calls Try.prog 37 #[v] w fun e w' => ∃ v', e = .returned v' ∧ w'.ownsRow w.heap.size 78 3 v' n (z.map (Value.int .i64)) ∧ Ext w w' := by
  obtain ⟨i0, hi, hz0, hz1, hz2⟩ := info_parts info_Fog
  have hh := hid h
  obtain ⟨hl, hm, hwf, a, c, rfl, hnc, hcm, hcell⟩ := h
  clear hwf
  have hnil := fun W => Go.Lib.run_eql_slice_nil (P := Try.prog) W 28 78 a n c 0 0 Try.underlying28
  cases a with
  | none =>
    have h0 : n = 0 := by
      rcases hcell with h | ⟨b, o, h, _⟩
      · exact h
      · cases h
    subst h0
    obtain rfl : z = [] := List.eq_nil_of_length_eq_zero (by omega)
    go_enter Try.func37, Try.ntmps37
    go_wp2_with (fail)
    go_ret
    exact ⟨_, rfl, World.ownsRow_nil _ _ _ _, Ext.refl _⟩
  | some ad =>
    clear hcell
    go_enter Try.func37, Try.ntmps37
    go_wp2_with (first | (at_builtin; refine wpList_src3 rfl (.tmp 5) (.tmp 6) 28 rfl w.heap.size 78 i0 _ Try.underlying28 hi hz0 hz1 hz2 rfl _ 0 [] rfl (row_empty3 _ _) _ n z rfl (hh.out.ext (by repeat (first | exact Ext.refl _ | assumption | refine Ext.alloc ?_ _ | refine Ext.drew ?_ | refine Ext.drewN ?_ _ | refine Ext.setCell ?_ (by first | exact Nat.le_refl _ | (simp; done) | (dsimp only; omega) | (simp only [World.size_alloc, World.size_setCell]; omega)) _ | refine Ext.trans ?_ (by assumption)))) (by omega) (by simp) ?_; intro v1 w1 hr1 hg1))
    have hE1 : Ext w w1 := Ext.of_grownAt ((by repeat (first | exact Ext.refl _ | assumption | refine Ext.alloc ?_ _ | refine Ext.drew ?_ | refine Ext.drewN ?_ _ | refine Ext.setCell ?_ (by first | exact Nat.le_refl _ | (simp; done) | (dsimp only; omega) | (simp only [World.size_alloc, World.size_setCell]; omega)) _ | refine Ext.trans ?_ (by assumption))) : Ext w (w.alloc (.cells #[] 78))) hg1 (fun k hk => by
      have hq : (Value.slice (some ⟨w.heap.size, 0, none⟩) 0 0).ownBlock = some k := hk
      have hq2 : w.heap.size = k := by simpa [Value.ownBlock] using hq
      omega)
    go_ret
    refine ⟨_, rfl, ?_, hE1⟩
    rw [Nat.zero_add, List.nil_append] at hr1
    exact hr1

end Go.Proofs.Ytjmbhlhkjjinbaa
namespace Go.Proofs.Ytjmbhlhkjjinbaa
open Go.RowKit
set_option linter.unusedSimpArgs false
set_option linter.unusedVariables false
open Go.Shelf Go.Sort

theorem mn_eq (a b : Int) : min a b = mnI a b := by unfold mnI; split <;> omega
theorem mx_eq (a b : Int) : max a b = mxI a b := by unfold mxI; split <;> omega

set_option maxRecDepth 100000 in
set_option maxHeartbeats 4000000 in
theorem iAddFog_any (vN : Value) (nT : Nat) (zT : List Int) (nL : Nat) (zL : List Int) (v : Value) (n : Nat) (z : List Int) (xl xa xb : Int) (w : World) (hN : NetRow w vN nT zT nL zL) (HNET : Hid (okNet nT zT nL zL = true)) (h : IntRow .i64 3 w v n z) (HOK : Hid (okFg nL z n = true)) (HX : Hid (wfT nL (xl, xa, xb))) :
    Calls Try.prog 38 #[vN, v, .agg #[.int .i64 xl, .int .i64 xa, .int .i64 xb]] w fun e w' => ∃ v', e = .returned (.tuple #[v', .bool (decide ((addR z n (xl, xa, xb)).length ≤ 60))]) ∧ ((addR z n (xl, xa, xb)).length ≤ 60 → w'.ownsRow w.heap.size 78 3 v' (addR z n (xl, xa, xb)).length ((flat (addR z n (xl, xa, xb))).map (Value.int .i64))) ∧ Ext w w' := by
  obtain ⟨i0, hi, hz0, hz1, hz2⟩ := info_parts info_Fog
  have hn60 := (okFg_iff HOK.out).1
  have HNN := hid hN
  have HH := hid h
  obtain ⟨vT, vL, rfl, hT, hL⟩ := hN
  obtain ⟨_, _, _, aT, cT, rfl, _, _, _⟩ := hT
  obtain ⟨_, hmL, _, aL, cL, rfl, _, _, _⟩ := hL
  obtain ⟨hl, _, hwf, ad, c, rfl, hnc, hcm, hcell⟩ := h
  have HW := hid hwf
  clear hwf
  have HFB := hid (show fgB nL xl xa xb = true from fgB_iff.2 ⟨HX.out.1, HX.out.2.1, HX.out.2.2.1, HX.out.2.2.2⟩)
  have hnL := (okNet_iff HNET.out).2.1
  have e00 : Ext w ((w.alloc (.cells #[.slice aT nT cT, .slice aL nL cL] 27)).alloc (.cells #[.int .i64 xl, .int .i64 xa, .int .i64 xb] 78)) := ((Ext.refl w).alloc _).alloc _
  have bp0 : ((w.alloc (.cells #[.slice aT nT cT, .slice aL nL cL] 27)).alloc (.cells #[.int .i64 xl, .int .i64 xa, .int .i64 xb] 78)).cell? ⟨w.heap.size, 0, none⟩ = some (.slice aT nT cT) := by simp [go_sem]
  have bp1 : ((w.alloc (.cells #[.slice aT nT cT, .slice aL nL cL] 27)).alloc (.cells #[.int .i64 xl, .int .i64 xa, .int .i64 xb] 78)).cell? ⟨w.heap.size, 1, none⟩ = some (.slice aL nL cL) := by simp [go_sem]
  have bx0 := Box3.new (w.alloc (.cells #[.slice aT nT cT, .slice aL nL cL] 27)) xl xa xb 78
  rw [World.size_alloc] at bx0
  go_enter Try.func38, Try.ntmps38
  go_wp2_with (fail)
  generalize ((w.alloc (.cells #[.slice aT nT cT, .slice aL nL cL] 27)).alloc (.cells #[.int .i64 xl, .int .i64 xa, .int .i64 xb] 78)) = w0 at *
  obtain ⟨bg, hbg⟩ : ∃ g, g = w.heap.size := ⟨_, rfl⟩
  obtain ⟨gx, hgx⟩ : ∃ g, g = w.heap.size + 1 := ⟨_, rfl⟩
  rw [← hgx] at bx0 ⊢
  rw [← hbg] at bp0 bp1 ⊢
  have hgx1 : w.heap.size ≤ gx := by omega
  have bgs : bg < w0.heap.size := by have := bx0.2.2.2.2.2.2; omega
  have HGX := hid hgx
  clear hgx hbg
  have HBX := hid (fun (W : World) (hW : Ext w0 W) => show (W.cell? ⟨bg, 0, none⟩ = some (.slice aT nT cT) ∧ W.cell? ⟨bg, 1, none⟩ = some (.slice aL nL cL)) ∧ Box3 W gx xl xa xb from ⟨⟨by rw [(Ext.cells hW).1 _ _ bgs]; exact bp0, by rw [(Ext.cells hW).1 _ _ bgs]; exact bp1⟩, bx0.ext hW⟩)
  clear bp0 bp1 bx0
  refine (iIsNet_any _ nT zT nL zL _ (HNN.out.ext e00)).mono ?_
  rw [HNET.out]
  rintro e w1 ⟨rfl, hb1⟩
  obtain ⟨⟨n1a, n1b⟩, _⟩ := HBX.out w1 hb1
  go_wp2_with (fail)
  refine (areFogs_any _ nT zT nL zL _ n z _ (HNN.out.ext (e00.trans hb1)) (HH.out.ext (e00.trans hb1))).mono ?_
  rw [HOK.out]
  rintro e w2 ⟨rfl, hb2⟩
  obtain ⟨⟨n2a, n2b⟩, ⟨x20, x21, x22, _, _, _, _⟩⟩ := HBX.out w2 (hb1.trans hb2)
  clear n1a n1b
  go_wp2_with (fail)
  refine (isFog_any _ _ nT cT nL cL xl xa xb _ hmL).mono ?_
  rw [HFB.out]
  rintro e w3 ⟨rfl, hb3⟩
  obtain ⟨_, hb0⟩ := HBX.out w3 ((hb1.trans hb2).trans hb3)
  have e3 : Ext w w3 := ((e00.trans hb1).trans hb2).trans hb3
  clear n2a n2b x20 x21 x22
  go_wp2_with (fail)
  go_loopw [8, 28] (fun q8 i wr => ∃ (k : Nat) (K : List Tri) (b0 b1 b2 : Int), (∃ p, adS z (xl, xa, xb) k = (K, (b0, b1, b2), p)) ∧ k ≤ n ∧ i = .int .i64 (k : Int) ∧ wr.ownsRow (gx + 1) 78 3 q8 K.length ((flat K).map (Value.int .i64)) ∧ Box3 wr gx b0 b1 b2 ∧ Ext w wr)
    (fun _ i _ => n - (intOf i).toNat)
  case atStart => exact ⟨0, [], xl, xa, xb, ⟨0, rfl⟩, Nat.zero_le _, rfl, World.ownsRow_nil _ _ _ _, hb0, e3⟩
  case round =>
    obtain ⟨k, K, b0, b1, b2, hs, hk, rfl, hrow, hbox, hE⟩ := hrel
    have HS := hid hs
    have hlen : K.length ≤ k := by obtain ⟨p, hs⟩ := hs; have := (adS_len z (xl, xa, xb) k).1; rw [hs] at this; exact this
    clear hs hb0 e3
    have HBOX := hid hbox
    have HROW := hid hrow
    obtain ⟨t0, t1, t2, f0, f1, f2, hgl⟩ := hbox
    by_cases hlt : k < n
    · obtain ⟨b, o, rfl, hb, hc⟩ := hcell.resolve_left (by omega)
      have hx0 := getD_wf (j := k * 3) HW.out (by omega)
      have hx1 := getD_wf (j := k * 3 + 1) HW.out (by omega)
      have hx2 := getD_wf (j := k * 3 + 2) HW.out (by omega)
      obtain ⟨x0, hx0⟩ : ∃ x, x = z.getD (k * 3) 0 := ⟨_, rfl⟩
      have s0 : wr.cell? ⟨b, o + k * 3, none⟩ = some (.int .i64 x0) := by rw [(Ext.cells hE).1 _ _ hb, show o + k * 3 = o + (k * 3) by omega, hc _ (by omega), hx0]
      have H0 := hid hx0
      clear hx0
      obtain ⟨x1, hx1⟩ : ∃ x, x = z.getD (k * 3 + 1) 0 := ⟨_, rfl⟩
      have s1 : wr.cell? ⟨b, o + k * 3 + 1, none⟩ = some (.int .i64 x1) := by rw [(Ext.cells hE).1 _ _ hb, show o + k * 3 + 1 = o + (k * 3 + 1) by omega, hc _ (by omega), hx1]
      have H1 := hid hx1
      clear hx1
      obtain ⟨x2, hx2⟩ : ∃ x, x = z.getD (k * 3 + 2) 0 := ⟨_, rfl⟩
      have s2 : wr.cell? ⟨b, o + k * 3 + 2, none⟩ = some (.int .i64 x2) := by rw [(Ext.cells hE).1 _ _ hb, show o + k * 3 + 2 = o + (k * 3 + 2) by omega, hc _ (by omega), hx2]
      have H2 := hid hx2
      clear hx2
      rw [← H0.out] at hx0
      rw [← H1.out] at hx1
      rw [← H2.out] at hx2
      have HY := hid (show triAt z k = (x0, x1, x2) by rw [H0.out, H1.out, H2.out]; rfl)
      have hbr : b < wr.heap.size := Nat.lt_of_lt_of_le hb hE.size
      clear hcell hc hrow
      obtain ⟨p, hsp⟩ := HS.out
      have HNX := hid (show adS z (xl, xa, xb) (k + 1) = if touT (x0, x1, x2) (b0, b1, b2) = true then (K, updT (b0, b1, b2) (x0, x1, x2), p) else (K ++ [(x0, x1, x2)], (b0, b1, b2), if bef (x0, x1, x2) (b0, b1, b2) = true then K.length + 1 else p) by rw [adS, HY.out, hsp])
      clear hsp
      by_cases c0 : x0 = b0
      · subst c0
        by_cases c1 : x1 ≤ b2
        · by_cases c2 : b1 ≤ x2
          · have HN := hid (show adS z (xl, xa, xb) (k + 1) = (K, (x0, mnI b1 x1, mxI b2 x2), p) by rw [HNX.out, if_pos (by rw [touT_iff]; exact ⟨rfl, c1, c2⟩)]; rfl)
            go_wp2_with (fail)
            have hyd := (Box3.new wr x0 x1 x2 78).ext ((Ext.refl _).drew)
            have hxd := HBOX.out.ext (((Ext.refl wr).alloc (.cells #[.int .i64 x0, .int .i64 x1, .int .i64 x2] 78)).drew)
            have hrd := row_ext HROW.out (((Ext.refl wr).alloc (.cells #[.int .i64 x0, .int .i64 x1, .int .i64 x2] 78)).drew)
            have hEd := hE.trans (((Ext.refl wr).alloc (.cells #[.int .i64 x0, .int .i64 x1, .int .i64 x2] 78)).drew)
            obtain ⟨gy, hgy⟩ : ∃ g, g = wr.heap.size := ⟨_, rfl⟩
            have hxy : gx ≠ gy := by omega
            rw [← hgy] at hyd ⊢
            clear hgy
            obtain ⟨wd, hwd⟩ : ∃ W, W = (wr.alloc (.cells #[.int .i64 x0, .int .i64 x1, .int .i64 x2] 78)).drew := ⟨_, rfl⟩
            rw [← hwd] at hyd hxd hrd hEd
            obtain ⟨y0, y1, y2, yf0, yf1, yf2, ygs⟩ := hyd
            have HXD := hid hxd
            obtain ⟨z0, z1, z2, zf0, zf1, zf2, zgs⟩ := hxd
            clear t0 t1 t2 f0 f1 f2
            refine wp_region_noPanic ?_
            refine wp_region_held_drew (S := (fun W => W.cell? ⟨gy, 1, none⟩ = some (.int .i64 x1) ∧ W.cell? ⟨gy, 2, none⟩ = some (.int .i64 x2))) (by kernel_rfl) ?_ (fun hHeld => ?_)
            · rw [← hwd]; exact ⟨y1, y2⟩
            rw [← hwd] at hHeld ⊢
            clear hwd
            refine wpAnyH_take (i := 0) (oi := { dst := some 51, op := _, type := _, pos := _, after := _, guard := _ }) (v := ?_) rfl (by kernel_rfl) (by kernel_rfl) (by kernel_rfl) (fun _ _ _ h => h) (Or.inl ⟨by rfl, ?_⟩) (by assumption) ?_
            rotate_left
            · (intro w hSw; (try dsimp only at hSw); go_simp) <;> (first | done | with_reducible rfl | rfl)
            try simp only [Act.put, List.setIfInBounds_toArray, List.set_cons_zero, List.set_cons_succ]
            refine wpAnyH_take (i := 2) (oi := { dst := some 53, op := _, type := _, pos := _, after := _, guard := _ }) (v := ?_) rfl (by kernel_rfl) (by kernel_rfl) (by kernel_rfl) (fun _ _ _ h => h) (Or.inl ⟨by rfl, ?_⟩) (by assumption) ?_
            rotate_left
            · (intro w hSw; (try dsimp only at hSw); go_simp) <;> (first | done | with_reducible rfl | rfl)
            try simp only [Act.put, List.setIfInBounds_toArray, List.set_cons_zero, List.set_cons_succ]
            refine wpAnyH_take (i := 3) (oi := { dst := some 54, op := _, type := _, pos := _, after := _, guard := _ }) (v := ?_) rfl (by kernel_rfl) (by kernel_rfl) (by kernel_rfl) (fun _ _ _ h => h) (Or.inl ⟨by rfl, ?_⟩) (by assumption) ?_
            rotate_left
            · (intro w hSw; (try dsimp only at hSw); go_simp) <;> (first | done | with_reducible rfl | rfl)
            try simp only [Act.put, List.setIfInBounds_toArray, List.set_cons_zero, List.set_cons_succ]
            refine wpAnyH_take (i := 5) (oi := { dst := some 56, op := _, type := _, pos := _, after := _, guard := _ }) (v := ?_) rfl (by kernel_rfl) (by kernel_rfl) (by kernel_rfl) (fun _ _ _ h => h) (Or.inl ⟨by rfl, ?_⟩) (by assumption) ?_
            rotate_left
            · (intro w hSw; (try dsimp only at hSw); go_simp) <;> (first | done | with_reducible rfl | rfl)
            try simp only [Act.put, List.setIfInBounds_toArray, List.set_cons_zero, List.set_cons_succ]
            refine wpAnyH_take (i := 7) (oi := { dst := some 58, op := _, type := _, pos := _, after := _, guard := _ }) (v := ?_) rfl (by kernel_rfl) (by kernel_rfl) (by kernel_rfl) (fun _ _ _ h => h) (Or.inl ⟨by rfl, ?_⟩) (by assumption) ?_
            rotate_left
            · (intro w hSw; (try dsimp only at hSw); go_simp) <;> (first | done | with_reducible rfl | rfl)
            try simp only [Act.put, List.setIfInBounds_toArray, List.set_cons_zero, List.set_cons_succ]
            refine wpAnyH_take (i := 8) (oi := { dst := some 59, op := _, type := _, pos := _, after := _, guard := _ }) (v := ?_) rfl (by kernel_rfl) (by kernel_rfl) (by kernel_rfl) (fun _ _ _ h => h) (Or.inl ⟨by rfl, ?_⟩) (by assumption) ?_
            rotate_left
            · (intro w hSw; (try dsimp only at hSw); go_simp) <;> (first | done | with_reducible rfl | rfl)
            try simp only [Act.put, List.setIfInBounds_toArray, List.set_cons_zero, List.set_cons_succ]
            refine wpAnyH_ready (rs := [1, 6]) (by kernel_rfl) (by simp) ?_
            refine AllReadyH.cons (o := { dst := some 52, op := _, type := _, pos := _, after := _, guard := _ }) rfl (fun K hK => ?_) (AllReadyH.cons (o := { dst := some 57, op := _, type := _, pos := _, after := _, guard := _ }) rfl (fun K hK => ?_) AllReadyH.nil)
            · go_simp
              refine hK.out _ _ ?_ (fun hHeld => ?_)
              · first | assumption | exact hHeld
              clear hK K
              try simp only [Act.put, List.setIfInBounds_toArray, List.set_cons_zero, List.set_cons_succ]
              refine wpAnyH_take (i := 4) (oi := { dst := some 55, op := _, type := _, pos := _, after := _, guard := _ }) (v := ?_) rfl (by kernel_rfl) (by kernel_rfl) (by kernel_rfl) (fun _ _ _ h => h) (Or.inl ⟨by rfl, ?_⟩) (by assumption) ?_
              rotate_left
              · (intro w hSw; (try dsimp only at hSw); go_simp) <;> (first | done | with_reducible rfl | rfl)
              try simp only [Act.put, List.setIfInBounds_toArray, List.set_cons_zero, List.set_cons_succ]
              refine wpAnyH_ready (rs := [6]) (by kernel_rfl) (by simp) ?_
              refine AllReadyH.cons (o := { dst := some 57, op := _, type := _, pos := _, after := _, guard := _ }) rfl (fun K hK => ?_) AllReadyH.nil
              go_simp
              refine hK.out _ _ ?_ (fun hHeld => ?_)
              · first | assumption | exact hHeld
              clear hK K
              try simp only [Act.put, List.setIfInBounds_toArray, List.set_cons_zero, List.set_cons_succ]
              refine wpAnyH_take (i := 9) (oi := { dst := some 60, op := _, type := _, pos := _, after := _, guard := _ }) (v := ?_) rfl (by kernel_rfl) (by kernel_rfl) (by kernel_rfl) (fun _ _ _ h => h) (Or.inl ⟨by rfl, ?_⟩) (by assumption) ?_
              rotate_left
              · (intro w hSw; (try dsimp only at hSw); go_simp) <;> (first | done | with_reducible rfl | rfl)
              try simp only [Act.put, List.setIfInBounds_toArray, List.set_cons_zero, List.set_cons_succ]
              refine wpAnyH_take (i := 10) (oi := { dst := some 61, op := _, type := _, pos := _, after := _, guard := _ }) (v := ?_) rfl (by kernel_rfl) (by kernel_rfl) (by kernel_rfl) (fun _ _ _ h => h) (Or.inl ⟨by rfl, ?_⟩) (by assumption) ?_
              rotate_left
              · (intro w hSw; (try dsimp only at hSw); go_simp) <;> (first | done | with_reducible rfl | rfl)
              try simp only [Act.put, List.setIfInBounds_toArray, List.set_cons_zero, List.set_cons_succ]
              refine wpAnyH_ready (rs := [11]) (by kernel_rfl) (by simp) ?_
              refine AllReadyH.cons (o := { dst := none, op := _, type := _, pos := _, after := _, guard := _ }) rfl (fun K hK => ?_) AllReadyH.nil
              go_simp
              refine hK.out _ _ ?_ (fun hHeld => ?_)
              · (try dsimp only); exact ⟨by simp [go_sem, *], by simp [go_sem, *]⟩
              clear hK K
              try simp only [Act.put, List.setIfInBounds_toArray, List.set_cons_zero, List.set_cons_succ]
              refine wpAnyH_take (i := 12) (oi := { dst := some 62, op := _, type := _, pos := _, after := _, guard := _ }) (v := ?_) rfl (by kernel_rfl) (by kernel_rfl) (by kernel_rfl) (fun _ _ _ h => h) (Or.inl ⟨by rfl, ?_⟩) (by assumption) ?_
              rotate_left
              · (intro w hSw; (try dsimp only at hSw); go_simp) <;> (first | done | with_reducible rfl | rfl)
              try simp only [Act.put, List.setIfInBounds_toArray, List.set_cons_zero, List.set_cons_succ]
              refine wpAnyH_ready (rs := [13]) (by kernel_rfl) (by simp) ?_
              refine AllReadyH.cons (o := { dst := none, op := _, type := _, pos := _, after := _, guard := _ }) rfl (fun K hK => ?_) AllReadyH.nil
              go_simp
              refine hK.out _ _ ?_ (fun hHeld => ?_)
              · (try dsimp only); exact ⟨by simp [go_sem, *], by simp [go_sem, *]⟩
              clear hK K
              try simp only [Act.put, List.setIfInBounds_toArray, List.set_cons_zero, List.set_cons_succ]
              refine wpAnyH_done (by kernel_rfl) ?_ _
              refine NoPanic.normal ?_
              rw [mn_eq, mx_eq]
              go_wp2_with (fail)
              go_roundw
              case rel => exact ⟨k + 1, K, x0, _, _, ⟨p, HN.out⟩, by omega, by first | go_num | rfl, row_far (row_far hrd _ _) _ _, (HXD.out.set1 _).set2 _, (hEd.setCell (p := ⟨gx, 1, none⟩) hgx1 _).setCell (p := ⟨gx, 2, none⟩) hgx1 _⟩
              case measure => simp [intOf]; omega
            · go_simp
              refine hK.out _ _ ?_ (fun hHeld => ?_)
              · first | assumption | exact hHeld
              clear hK K
              try simp only [Act.put, List.setIfInBounds_toArray, List.set_cons_zero, List.set_cons_succ]
              refine wpAnyH_take (i := 9) (oi := { dst := some 60, op := _, type := _, pos := _, after := _, guard := _ }) (v := ?_) rfl (by kernel_rfl) (by kernel_rfl) (by kernel_rfl) (fun _ _ _ h => h) (Or.inl ⟨by rfl, ?_⟩) (by assumption) ?_
              rotate_left
              · (intro w hSw; (try dsimp only at hSw); go_simp) <;> (first | done | with_reducible rfl | rfl)
              try simp only [Act.put, List.setIfInBounds_toArray, List.set_cons_zero, List.set_cons_succ]
              refine wpAnyH_ready (rs := [1]) (by kernel_rfl) (by simp) ?_
              refine AllReadyH.cons (o := { dst := some 52, op := _, type := _, pos := _, after := _, guard := _ }) rfl (fun K hK => ?_) AllReadyH.nil
              go_simp
              refine hK.out _ _ ?_ (fun hHeld => ?_)
              · first | assumption | exact hHeld
              clear hK K
              try simp only [Act.put, List.setIfInBounds_toArray, List.set_cons_zero, List.set_cons_succ]
              refine wpAnyH_take (i := 4) (oi := { dst := some 55, op := _, type := _, pos := _, after := _, guard := _ }) (v := ?_) rfl (by kernel_rfl) (by kernel_rfl) (by kernel_rfl) (fun _ _ _ h => h) (Or.inl ⟨by rfl, ?_⟩) (by assumption) ?_
              rotate_left
              · (intro w hSw; (try dsimp only at hSw); go_simp) <;> (first | done | with_reducible rfl | rfl)
              try simp only [Act.put, List.setIfInBounds_toArray, List.set_cons_zero, List.set_cons_succ]
              refine wpAnyH_take (i := 10) (oi := { dst := some 61, op := _, type := _, pos := _, after := _, guard := _ }) (v := ?_) rfl (by kernel_rfl) (by kernel_rfl) (by kernel_rfl) (fun _ _ _ h => h) (Or.inl ⟨by rfl, ?_⟩) (by assumption) ?_
              rotate_left
              · (intro w hSw; (try dsimp only at hSw); go_simp) <;> (first | done | with_reducible rfl | rfl)
              try simp only [Act.put, List.setIfInBounds_toArray, List.set_cons_zero, List.set_cons_succ]
              refine wpAnyH_ready (rs := [11]) (by kernel_rfl) (by simp) ?_
              refine AllReadyH.cons (o := { dst := none, op := _, type := _, pos := _, after := _, guard := _ }) rfl (fun K hK => ?_) AllReadyH.nil
              go_simp
              refine hK.out _ _ ?_ (fun hHeld => ?_)
              · (try dsimp only); exact ⟨by simp [go_sem, *], by simp [go_sem, *]⟩
              clear hK K
              try simp only [Act.put, List.setIfInBounds_toArray, List.set_cons_zero, List.set_cons_succ]
              refine wpAnyH_take (i := 12) (oi := { dst := some 62, op := _, type := _, pos := _, after := _, guard := _ }) (v := ?_) rfl (by kernel_rfl) (by kernel_rfl) (by kernel_rfl) (fun _ _ _ h => h) (Or.inl ⟨by rfl, ?_⟩) (by assumption) ?_
              rotate_left
              · (intro w hSw; (try dsimp only at hSw); go_simp) <;> (first | done | with_reducible rfl | rfl)
              try simp only [Act.put, List.setIfInBounds_toArray, List.set_cons_zero, List.set_cons_succ]
              refine wpAnyH_ready (rs := [13]) (by kernel_rfl) (by simp) ?_
              refine AllReadyH.cons (o := { dst := none, op := _, type := _, pos := _, after := _, guard := _ }) rfl (fun K hK => ?_) AllReadyH.nil
              go_simp
              refine hK.out _ _ ?_ (fun hHeld => ?_)
              · (try dsimp only); exact ⟨by simp [go_sem, *], by simp [go_sem, *]⟩
              clear hK K
              try simp only [Act.put, List.setIfInBounds_toArray, List.set_cons_zero, List.set_cons_succ]
              refine wpAnyH_done (by kernel_rfl) ?_ _
              refine NoPanic.normal ?_
              rw [mn_eq, mx_eq]
              go_wp2_with (fail)
              go_roundw
              case rel => exact ⟨k + 1, K, x0, _, _, ⟨p, HN.out⟩, by omega, by first | go_num | rfl, row_far (row_far hrd _ _) _ _, (HXD.out.set1 _).set2 _, (hEd.setCell (p := ⟨gx, 1, none⟩) hgx1 _).setCell (p := ⟨gx, 2, none⟩) hgx1 _⟩
              case measure => simp [intOf]; omega
          · obtain ⟨p2, hp2⟩ : ∃ p2, adS z (xl, xa, xb) (k + 1) = (K ++ [(x0, x1, x2)], (x0, b1, b2), p2) := ⟨_, by rw [HNX.out, if_neg (by rw [touT_iff]; exact fun h => c2 h.2.2)]⟩
            have HN := hid hp2
            clear hp2
            go_wp2_with (at_builtin; go_loud (refine wpList_src3 rfl (.tmp 63) (.tmp 65) 28 rfl (gx + 1) 78 i0 _ Try.underlying28 hi hz0 hz1 hz2 rfl _ K.length ((flat K).map (Value.int .i64)) rfl (row_ext HROW.out (((Ext.refl wr).alloc _).alloc _)) _ 1 [x0, x1, x2] rfl (lit3_at _ _ x0 x1 x2 _ (by simp) hx0 hx1 hx2) (by omega) (by simp; omega) ?_; intro v1 w1 hr1 hg1; obtain ⟨a1, c1', rfl, _, _, _⟩ := row_shape hr1; have hY1 := ((Box3.new wr x0 x1 x2 78).ext ((Ext.refl _).alloc _)).grown hg1 (fun e => by have := (HROW.out.lt _ e).2; omega); have hX1 := (HBOX.out.ext (((Ext.refl wr).alloc _).alloc _)).grown hg1 (fun e => by have := (HROW.out.lt _ e).1; omega); have hE1 := Ext.of_grownAt ((hE.alloc _).alloc _) hg1 (fun q hq => by have := (HROW.out.lt q hq).1; omega); have HXN := hid hX1; obtain ⟨y0, y1, y2, _, _, _, _⟩ := hY1; obtain ⟨z0, z1, z2, _, _, _, _⟩ := hX1))
            go_roundw
            case rel => exact ⟨k + 1, K ++ [(x0, x1, x2)], _, b1, b2, ⟨p2, HN.out⟩, by omega, by first | rfl | go_num, by rw [flat_snoc, List.map_append, List.length_append]; exact hr1, HXN.out, hE1⟩
            case measure => simp [intOf]; omega
        · obtain ⟨p2, hp2⟩ : ∃ p2, adS z (xl, xa, xb) (k + 1) = (K ++ [(x0, x1, x2)], (x0, b1, b2), p2) := ⟨_, by rw [HNX.out, if_neg (by rw [touT_iff]; exact fun h => c1 h.2.1)]⟩
          have HN := hid hp2
          clear hp2
          go_wp2_with (at_builtin; go_loud (refine wpList_src3 rfl (.tmp 63) (.tmp 65) 28 rfl (gx + 1) 78 i0 _ Try.underlying28 hi hz0 hz1 hz2 rfl _ K.length ((flat K).map (Value.int .i64)) rfl (row_ext HROW.out (((Ext.refl wr).alloc _).alloc _)) _ 1 [x0, x1, x2] rfl (lit3_at _ _ x0 x1 x2 _ (by simp) hx0 hx1 hx2) (by omega) (by simp; omega) ?_; intro v1 w1 hr1 hg1; obtain ⟨a1, c1', rfl, _, _, _⟩ := row_shape hr1; have hY1 := ((Box3.new wr x0 x1 x2 78).ext ((Ext.refl _).alloc _)).grown hg1 (fun e => by have := (HROW.out.lt _ e).2; omega); have hX1 := (HBOX.out.ext (((Ext.refl wr).alloc _).alloc _)).grown hg1 (fun e => by have := (HROW.out.lt _ e).1; omega); have hE1 := Ext.of_grownAt ((hE.alloc _).alloc _) hg1 (fun q hq => by have := (HROW.out.lt q hq).1; omega); have HXN := hid hX1; obtain ⟨y0, y1, y2, _, _, _, _⟩ := hY1; obtain ⟨z0, z1, z2, _, _, _, _⟩ := hX1))
          go_roundw
          case rel => exact ⟨k + 1, K ++ [(x0, x1, x2)], _, b1, b2, ⟨p2, HN.out⟩, by omega, by first | rfl | go_num, by rw [flat_snoc, List.map_append, List.length_append]; exact hr1, HXN.out, hE1⟩
          case measure => simp [intOf]; omega
      · obtain ⟨p2, hp2⟩ : ∃ p2, adS z (xl, xa, xb) (k + 1) = (K ++ [(x0, x1, x2)], (b0, b1, b2), p2) := ⟨_, by rw [HNX.out, if_neg (by rw [touT_iff]; exact fun h => c0 h.1)]⟩
        have HN := hid hp2
        clear hp2
        go_wp2_with (at_builtin; go_loud (refine wpList_src3 rfl (.tmp 63) (.tmp 65) 28 rfl (gx + 1) 78 i0 _ Try.underlying28 hi hz0 hz1 hz2 rfl _ K.length ((flat K).map (Value.int .i64)) rfl (row_ext HROW.out (((Ext.refl wr).alloc _).alloc _)) _ 1 [x0, x1, x2] rfl (lit3_at _ _ x0 x1 x2 _ (by simp) hx0 hx1 hx2) (by omega) (by simp; omega) ?_; intro v1 w1 hr1 hg1; obtain ⟨a1, c1', rfl, _, _, _⟩ := row_shape hr1; have hY1 := ((Box3.new wr x0 x1 x2 78).ext ((Ext.refl _).alloc _)).grown hg1 (fun e => by have := (HROW.out.lt _ e).2; omega); have hX1 := (HBOX.out.ext (((Ext.refl wr).alloc _).alloc _)).grown hg1 (fun e => by have := (HROW.out.lt _ e).1; omega); have hE1 := Ext.of_grownAt ((hE.alloc _).alloc _) hg1 (fun q hq => by have := (HROW.out.lt q hq).1; omega); have HXN := hid hX1; obtain ⟨y0, y1, y2, _, _, _, _⟩ := hY1; obtain ⟨z0, z1, z2, _, _, _, _⟩ := hX1))
        go_roundw
        case rel => exact ⟨k + 1, K ++ [(x0, x1, x2)], _, b1, b2, ⟨p2, HN.out⟩, by omega, by first | rfl | go_num, by rw [flat_snoc, List.map_append, List.length_append]; exact hr1, HXN.out, hE1⟩
        case measure => simp [intOf]; omega
    · obtain rfl : k = n := by omega
      obtain ⟨p, hs⟩ := HS.out
      obtain ⟨_, _, _, hKw, hxw⟩ := adS_inv HOK.out HX.out k (Nat.le_refl _)
      rw [hs] at hKw hxw
      obtain ⟨⟨hw0, hw1⟩, hw2, hw3, hw4⟩ := hxw
      simp only at hw0 hw1 hw2 hw3 hw4
      have hx0 : (Lit.int .i64 b0).wf = true := small_wf (by omega) (by omega)
      have hx1 : (Lit.int .i64 b1).wf = true := small_wf (by omega) (by omega)
      have hx2 : (Lit.int .i64 b2).wf = true := small_wf (by omega) (by omega)
      have HAD := hid (fun (S : List Tri) (hp : S.Perm (K ++ [(b0, b1, b2)])) (hso : S.Pairwise (fun a b => bef b a = false)) => show S = addR z k (xl, xa, xb) from addR_sorted HOK.out HX.out (by rw [hs]; exact hp) hso)
      have HLN := hid (show (addR z k (xl, xa, xb)).length = K.length + 1 by have := (addR_sep HOK.out HX.out).2.2.length_eq; rw [hs] at this; simpa using this)
      clear hKw hcell hs hw0 hw1 hw2 hw3 hw4
      go_wp2_with (at_builtin; go_loud (refine wpList_src3 rfl (.tmp 68) (.tmp 70) 28 rfl (gx + 1) 78 i0 _ Try.underlying28 hi hz0 hz1 hz2 rfl _ K.length ((flat K).map (Value.int .i64)) rfl (row_ext HROW.out ((Ext.refl wr).alloc _)) _ 1 [b0, b1, b2] rfl (lit3_row wr b0 b1 b2 _ hx0 hx1 hx2) (by omega) (by simp; omega) ?_; intro v1 w1 hr1 hg1; have hE1 := Ext.of_grownAt (hE.alloc _) hg1 (fun q hq => by have := (HROW.out.lt q hq).1; omega)))
      rw [← List.map_append] at hr1
      obtain ⟨zs, hzs⟩ : ∃ zs, zs = flat K ++ [b0, b1, b2] := ⟨_, rfl⟩
      rw [← hzs] at hr1
      have HZS := hid hzs
      clear hzs
      refine (sortFogs_any (gx + 1) v1 (K.length + 1) zs w1 hr1 (by omega) (by omega)).mono ?_
      rintro e w2 ⟨rfl, ys, hyl, hyp, hys, hr2, hg2⟩
      have htz : tri zs (K.length + 1) = K ++ [(b0, b1, b2)] := by
        have := tri_flat (K ++ [(b0, b1, b2)])
        rw [flat_snoc, List.length_append] at this
        rw [HZS.out]
        exact this
      rw [htz] at hyp
      have hEQ := HAD.out _ hyp hys
      have hE2 : Ext w w2 := Ext.of_grownAt hE1 hg2 (fun q hq => by have := (hr1.lt q hq).1; omega)
      have hyf : flat (addR z k (xl, xa, xb)) = ys := by rw [← hEQ]; exact flat_tri hyl
      obtain ⟨a1, c1', rfl, _, _, _⟩ := row_shape hr2
      rw [← hyf, ← HLN.out] at hr2
      have HR2 := hid (row_mono hr2 (show w.heap.size ≤ gx + 1 by omega))
      obtain ⟨AL, hAL⟩ : ∃ l, l = (addR z k (xl, xa, xb)).length := ⟨_, rfl⟩
      have hALK : AL = K.length + 1 := by rw [hAL]; exact HLN.out
      rw [← hAL] at HR2
      have HALE := hid hAL
      rw [← hALK]
      clear hAL hr2 hEQ hyp hys htz hr1 hg1 hg2
      by_cases h60 : AL ≤ 60
      · have t60 : decide ((60 : Int) < (AL : Int)) = false := by simp; omega
        have H60 := hid h60
        go_wp2_with (fail)
        go_ret2
        rw [← HALE.out, decide_eq_true H60.out]
        exact ⟨_, rfl, fun _ => (by show w2.ownsRow _ _ _ (Value.slice a1 (K.length + 1) c1') AL _; rw [← hALK]; exact HR2.out), hE2⟩
      · have t60 : decide ((60 : Int) < (AL : Int)) = true := by simp; omega
        have H60 := hid h60
        go_wp2_with (fail)
        go_ret2
        rw [← HALE.out, decide_eq_false H60.out]
        exact ⟨_, rfl, fun h => absurd h H60.out, hE2⟩

end Go.Proofs.Ytjmbhlhkjjinbaa
