/- The chapter of shifts: sorted by the reference. No condition. -/
import Derived.Test.YtedkffdkhnfoiaaDoorShxD
import Derived.Test.YtedkffdkhnfoiaaDoorApp3
import Derived.Lib.SliceRun
namespace Go.Proofs.YtedkffdkhnfoiaaDoor
open Go.RowKit
set_option linter.unusedSimpArgs false
set_option linter.unusedVariables false

def c3 (x : Tri) (r : Nat) : Int := if r = 0 then x.1 else if r = 1 then x.2.1 else x.2.2
theorem flat_get : ∀ (T : List Tri) (t : Nat), (flat T)[t]? = (T[t / 3]?).map fun x => c3 x (t % 3)
  | [], t => by simp [flat]
  | x :: T, t => by
    have e : flat (x :: T) = x.1 :: x.2.1 :: x.2.2 :: flat T := by simp [flat]
    rw [e]
    match t with
    | 0 => simp [c3]
    | 1 => simp [c3]
    | 2 => simp [c3]
    | t + 3 =>
      have := flat_get T t
      rw [show (t + 3) / 3 = t / 3 + 1 by omega, show (t + 3) % 3 = t % 3 by omega]
      simpa using this
theorem flat_tri {z : List Int} {n : Nat} (hl : z.length = n * 3) : flat (tri z n) = z := by
  apply List.ext_getElem?
  intro t
  rw [flat_get]
  by_cases h : t < n * 3
  · rw [tri_getElem? (show t / 3 < n by omega), List.getElem?_eq_getElem (by omega)]
    simp only [Option.map_some]
    congr 1
    have e : z.getD t 0 = z[t] := by simp [List.getD_eq_getElem?_getD, List.getElem?_eq_getElem (show t < z.length by omega)]
    rw [← e]
    unfold c3 triAt
    rcases (by omega : t % 3 = 0 ∨ t % 3 = 1 ∨ t % 3 = 2) with r | r | r
    · rw [r, if_pos rfl]
      exact congrArg (fun i => z.getD i 0) (by omega)
    · rw [r, if_neg (by omega), if_pos rfl]
      exact congrArg (fun i => z.getD i 0) (by omega)
    · rw [r, if_neg (by omega), if_neg (by omega)]
      exact congrArg (fun i => z.getD i 0) (by omega)
  · rw [List.getElem?_eq_none (by simp [tri]; omega), List.getElem?_eq_none (by omega)]
    rfl
theorem flat_mem {T : List Tri} {x : Int} (h : x ∈ flat T) : ∃ y ∈ T, x = y.1 ∨ x = y.2.1 ∨ x = y.2.2 := by
  simp only [flat, List.mem_flatMap, List.mem_cons, List.not_mem_nil, or_false] at h
  exact h
theorem mem_flat {T : List Tri} {y : Tri} (h : y ∈ T) : y.1 ∈ flat T ∧ y.2.1 ∈ flat T ∧ y.2.2 ∈ flat T := by
  simp only [flat, List.mem_flatMap, List.mem_cons, List.not_mem_nil, or_false]
  exact ⟨⟨y, h, .inl rfl⟩, ⟨y, h, .inr (.inl rfl)⟩, ⟨y, h, .inr (.inr rfl)⟩⟩
theorem perm_wf {ys z : List Int} {n : Nat} (hy : ys.length = n * 3) (hz : z.length = n * 3) (hp : (tri ys n).Perm (tri z n)) (hw : ∀ x ∈ z, (Lit.int .i64 x).wf = true) : ∀ x ∈ ys, (Lit.int .i64 x).wf = true := fun x hx => by
  rw [← flat_tri hy] at hx
  obtain ⟨y, hy1, hx⟩ := flat_mem hx
  have := mem_flat (hp.mem_iff.1 hy1)
  rw [flat_tri hz] at this
  rcases hx with rfl | rfl | rfl
  · exact hw _ this.1
  · exact hw _ this.2.1
  · exact hw _ this.2.2
/-- what sorting answers -/
def soO (z : List Int) (n : Nat) : Bool := okSs (srtZ z n) n
def soL (z : List Int) (n : Nat) : List Int := if soO z n = true then srtZ z n else []
theorem srtZ_wf {z : List Int} {n : Nat} (hz : z.length = n * 3) (hw : ∀ x ∈ z, (Lit.int .i64 x).wf = true) : ∀ x ∈ srtZ z n, (Lit.int .i64 x).wf = true := perm_wf (srtZ_length z n) hz (srtZ_perm z n) hw

set_option maxRecDepth 100000 in
set_option maxHeartbeats 8000000 in
theorem shSort_any (v : Value) (n : Nat) (z : List Int) (w : World) (h : IntRow .i64 3 w v n z) (hn : n ≤ 1000) :
    Calls Tryd.prog 67 #[v] w fun e w' => ∃ v', e = .returned (.tuple #[v', .bool (soO z n)]) ∧ w'.ownsRow w.heap.size 42 3 v' ((soL z n).length / 3) ((soL z n).map (Value.int .i64)) ∧ Ext w w' := by
  obtain ⟨i0, hi, hz0, hz1, hz2⟩ := info_parts info_Shift
  obtain ⟨hl, hm, hwf, a, c, rfl, hnc, hcm, hcell⟩ := h
  have HW := hid hwf
  clear hwf hm
  obtain ⟨Q, hQ⟩ : ∃ q, q = soO z n := ⟨_, rfl⟩
  obtain ⟨L, hLe⟩ : ∃ l, l = soL z n := ⟨_, rfl⟩
  rw [← hQ, ← hLe]
  have HLE := hid hLe
  have HQQ := hid hQ
  clear hQ hLe
  go_enter Tryd.func67, Tryd.ntmps67
  go_wp2_with (fail)
  go_loopw [4, 10] (fun q4 i wr => ∃ (k : Nat), k ≤ n ∧ i = .int .i64 (k : Int) ∧ wr.ownsRow w.heap.size 42 3 q4 k ((srtZ z k).map (Value.int .i64)) ∧ Ext w wr)
    (fun _ i _ => n - (intOf i).toNat)
  case atStart => exact ⟨0, Nat.zero_le _, rfl, World.ownsRow_nil _ _ _ _, Ext.refl _⟩
  case round =>
    obtain ⟨k, hk, rfl, hrow, hE⟩ := hrel
    by_cases hlt : k < n
    · obtain ⟨b, o, rfl, hb, hc⟩ := hcell.resolve_left (by omega)
      have hx0 := getD_wf (j := k * 3) HW.out (by omega)
      have hx1 := getD_wf (j := k * 3 + 1) HW.out (by omega)
      have hx2 := getD_wf (j := k * 3 + 2) HW.out (by omega)
      obtain ⟨x0, hx0⟩ : ∃ x, x = z.getD (k * 3) 0 := ⟨_, rfl⟩
      have s0 : wr.cell? ⟨b, o + k * 3, none⟩ = some (.int .i64 x0) := by rw [(Ext.cells hE).1 _ _ hb, show o + k * 3 = o + (k * 3) by omega, hc _ (by omega), hx0]
      have H0 := hid hx0
      clear hx0
      obtain ⟨x1, hx1⟩ : ∃ x, x = z.getD (k * 3 + 1) 0 := ⟨_, rfl⟩
      have s1 : wr.cell? ⟨b, o + k * 3 + 1, none⟩ = some (.int .i64 x1) := by rw [(Ext.cells hE).1 _ _ hb, show o + k * 3 + 1 = o + (k * 3 + 1) by omega, hc _ (by omega), hx1]
      have H1 := hid hx1
      clear hx1
      obtain ⟨x2, hx2⟩ : ∃ x, x = z.getD (k * 3 + 2) 0 := ⟨_, rfl⟩
      have s2 : wr.cell? ⟨b, o + k * 3 + 2, none⟩ = some (.int .i64 x2) := by rw [(Ext.cells hE).1 _ _ hb, show o + k * 3 + 2 = o + (k * 3 + 2) by omega, hc _ (by omega), hx2]
      have H2 := hid hx2
      clear hx2
      rw [← H0.out] at hx0
      rw [← H1.out] at hx1
      rw [← H2.out] at hx2
      have HNX0 := hid (show srtZ z (k + 1) = insZ (srtZ z k) (insK (srtZ z k) x0 x1 k) x0 x1 x2 by rw [H0.out, H1.out, H2.out]; rfl)
      obtain ⟨z3, hz3⟩ : ∃ z3, z3 = srtZ z k := ⟨_, rfl⟩
      have hl3 : z3.length = k * 3 := by rw [hz3]; exact srtZ_length z k
      rw [← hz3] at hrow HNX0
      have hw3 : ∀ x ∈ z3, (Lit.int .i64 x).wf = true := by
        rw [hz3]
        refine perm_wf (z := z.take (k * 3)) (srtZ_length z k) (by rw [List.length_take]; omega) ?_ (fun x hx => HW.out x (List.mem_of_mem_take hx))
        have e : tri (z.take (k * 3)) k = tri z k := by
          unfold tri
          refine List.map_congr_left fun i hi => ?_
          have := take_at (z := z) (i := k) (j := i) (by simpa using hi)
          unfold triAt
          rw [this.1, this.2.1, this.2.2]
        rw [e]
        exact srtZ_perm z k
      have HW3 := hid hw3
      have HZ3 := hid hz3
      have hbr : b < wr.heap.size := Nat.lt_of_lt_of_le hb hE.size
      have HR0 := hid (row_ints hrow (by unfold maxLen; omega) hw3)
      clear hw3 hz3 hc hcell
      rcases hrow.2 with ⟨hv4, hk4⟩ | ⟨g4, c4, cur4, hv4, hg4a, hg4b, hg4c, hg4d, _, _⟩
      · have hk5 : k = 0 := hk4
        subst hv4 hk5
        clear hk4
        simp only [Nat.zero_mul, Nat.add_zero, Nat.zero_add] at s0 s1 s2
        go_wp2_with (fail)
        have AXw : ∀ W : World, W = wr.alloc (.cells #[.int .i64 x0, .int .i64 x1, .int .i64 x2] 42) → W.cell? ⟨wr.heap.size, 0, none⟩ = some (.int .i64 x0) ∧ W.cell? ⟨wr.heap.size, 1, none⟩ = some (.int .i64 x1) ∧ W.cell? ⟨wr.heap.size, 2, none⟩ = some (.int .i64 x2) ∧ wr.heap.size < W.heap.size ∧ Ext w W ∧ Ext wr W := by
          rintro W rfl
          exact ⟨by simp [go_sem], by simp [go_sem], by simp [go_sem], by simp, hE.alloc _, (Ext.refl _).alloc _⟩
        obtain ⟨wo, hwo⟩ : ∃ W, W = wr.alloc (.cells #[.int .i64 x0, .int .i64 x1, .int .i64 x2] 42) := ⟨_, rfl⟩
        obtain ⟨t0, t1, t2, hgo, hEo, hErw⟩ := AXw wo hwo
        have hrowo := row_ext hrow hErw
        have HRo := hid (HR0.out.ext hErw)
        rw [← hwo]
        obtain ⟨gx, hgx⟩ : ∃ q, q = wr.heap.size := ⟨_, rfl⟩
        rw [← hgx] at t0 t1 t2 hgo ⊢
        have HXB := hid (And.intro t0 (And.intro t1 t2))
        clear AXw hwo hgx s0 s1 s2 t0 t1 t2 hErw hrow HR0 hbr hE
        go_loopw [7] (fun q wr => q = .int .i64 0 ∧ Ext wo wr) (fun q _ => 0)
        case atStart => exact ⟨rfl, Ext.refl _⟩
        case round =>
          obtain ⟨rfl, hEr⟩ := hrel
          go_wp2_with (fail)
          go_quiet (fail)
          rename_i nq
          have EB0 : Ext wo (wr.drewN nq) := hEr.drewN _
          obtain ⟨wB, hwB⟩ : ∃ W, W = wr.drewN nq := ⟨_, rfl⟩
          rw [← hwB] at EB0 ⊢
          clear hwB hEr
          have HINS := hid (show insK z3 x0 x1 0 = 0 from rfl)
          have hzn : z3 = [] := List.eq_nil_of_length_eq_zero (by omega)
          have HZN := hid hzn
          clear hzn
          have EW : Ext w wB := hEo.trans EB0
          have EB : Ext wB wB := Ext.refl _
          have SKP := hid (fun (W : World) (hW : Ext wB W) => show W.cell? ⟨gx, 0, none⟩ = some (.int .i64 x0) ∧ W.cell? ⟨gx, 1, none⟩ = some (.int .i64 x1) ∧ W.cell? ⟨gx, 2, none⟩ = some (.int .i64 x2) from ⟨by rw [(Ext.cells (EB0.trans hW)).1 _ _ hgo]; exact HXB.out.1, by rw [(Ext.cells (EB0.trans hW)).1 _ _ hgo]; exact HXB.out.2.1, by rw [(Ext.cells (EB0.trans hW)).1 _ _ hgo]; exact HXB.out.2.2⟩)
          have HNX := hid (show srtZ z (0 + 1) = insZ z3 0 x0 x1 x2 by rw [HNX0.out, HINS.out])
          go_wp2_with (fail)
          have HT := hid (show IntRow .i64 3 wB (.slice none 0 0) 0 (z3.take (0 * 3)) from by rw [HZN.out]; exact none3 _ _ _ (Nat.zero_le _))
          have HD := hid (show IntRow .i64 3 wB (.slice none 0 0) (0 - 0) (z3.drop (0 * 3)) from by rw [HZN.out]; exact none3 _ _ _ (Nat.zero_le _))
          refine wp_region_noPanic ?_
          refine wp_region_held_drew (S := (fun W => W.cell? ⟨gx, 0, none⟩ = some (.int .i64 x0) ∧ W.cell? ⟨gx, 1, none⟩ = some (.int .i64 x1) ∧ W.cell? ⟨gx, 2, none⟩ = some (.int .i64 x2))) (by kernel_rfl) ?_ (fun hHeld => ?_)
          · first | exact SKP.out _ (EB.drew) | (dsimp only; exact SKP.out _ (EB.drew))
          have ED := EB.drew
          generalize wB.drew = wd at *
          refine wpAnyH_take (i := 1) (oi := { dst := some 30, op := _, type := _, pos := _, after := _, guard := _ }) (v := ?_) rfl (by kernel_rfl) (by kernel_rfl) (by kernel_rfl) (fun _ _ _ h => h) (Or.inl ⟨by rfl, ?_⟩) (by assumption) ?_
          rotate_left
          · (intro w hSw; (try dsimp only at hSw); go_simp) <;> (first | done | with_reducible rfl | rfl)
          try simp only [Act.put, List.setIfInBounds_toArray, List.set_cons_zero, List.set_cons_succ]
          refine wpAnyH_take (i := 2) (oi := { dst := some 31, op := _, type := _, pos := _, after := _, guard := _ }) (v := ?_) rfl (by kernel_rfl) (by kernel_rfl) (by kernel_rfl) (fun _ _ _ h => h) (Or.inl ⟨by rfl, ?_⟩) (by assumption) ?_
          rotate_left
          · (intro w hSw; (try dsimp only at hSw); go_simp) <;> (first | done | with_reducible rfl | rfl)
          try simp only [Act.put, List.setIfInBounds_toArray, List.set_cons_zero, List.set_cons_succ]
          refine wpAnyH_take (i := 3) (oi := { dst := some 32, op := _, type := _, pos := _, after := _, guard := _ }) (v := ?_) rfl (by kernel_rfl) (by kernel_rfl) (by kernel_rfl) (fun _ _ _ h => h) (Or.inl ⟨by rfl, ?_⟩) (by assumption) ?_
          rotate_left
          · (intro w hSw; (try dsimp only at hSw); go_simp) <;> (first | done | with_reducible rfl | rfl)
          try simp only [Act.put, List.setIfInBounds_toArray, List.set_cons_zero, List.set_cons_succ]
          refine wpAnyH_take (i := 5) (oi := { dst := some 34, op := _, type := _, pos := _, after := _, guard := _ }) (v := ?_) rfl (by kernel_rfl) (by kernel_rfl) (by kernel_rfl) (fun _ _ _ h => h) (Or.inl ⟨by rfl, ?_⟩) (by assumption) ?_
          rotate_left
          · (intro w hSw; (try dsimp only at hSw); go_simp) <;> (first | done | with_reducible rfl | rfl)
          try simp only [Act.put, List.setIfInBounds_toArray, List.set_cons_zero, List.set_cons_succ]
          refine wpAnyH_take (i := 8) (oi := { dst := some 37, op := _, type := _, pos := _, after := _, guard := _ }) (v := ?_) rfl (by kernel_rfl) (by kernel_rfl) (by kernel_rfl) (fun _ _ _ h => h) (Or.inl ⟨by rfl, ?_⟩) (by assumption) ?_
          rotate_left
          · (intro w hSw; (try dsimp only at hSw); go_simp) <;> (first | done | with_reducible rfl | rfl)
          try simp only [Act.put, List.setIfInBounds_toArray, List.set_cons_zero, List.set_cons_succ]
          refine wpAnyH_take (i := 9) (oi := { dst := some 38, op := _, type := _, pos := _, after := _, guard := _ }) (v := ?_) rfl (by kernel_rfl) (by kernel_rfl) (by kernel_rfl) (fun _ _ _ h => h) (Or.inl ⟨by rfl, ?_⟩) (by assumption) ?_
          rotate_left
          · (intro w hSw; (try dsimp only at hSw); go_simp) <;> (first | done | with_reducible rfl | rfl)
          try simp only [Act.put, List.setIfInBounds_toArray, List.set_cons_zero, List.set_cons_succ]
          refine wpAnyH_take (i := 10) (oi := { dst := some 39, op := _, type := _, pos := _, after := _, guard := _ }) (v := ?_) rfl (by kernel_rfl) (by kernel_rfl) (by kernel_rfl) (fun _ _ _ h => h) (Or.inl ⟨by rfl, ?_⟩) (by assumption) ?_
          rotate_left
          · (intro w hSw; (try dsimp only at hSw); go_simp) <;> (first | done | with_reducible rfl | rfl)
          try simp only [Act.put, List.setIfInBounds_toArray, List.set_cons_zero, List.set_cons_succ]
          refine wpAnyH_ready (rs := [0, 6]) (by kernel_rfl) (by simp) ?_
          refine AllReadyH.cons (o := { dst := some 29, op := _, type := _, pos := _, after := _, guard := _ }) rfl (fun K hK => ?_) (AllReadyH.cons (o := { dst := some 35, op := _, type := _, pos := _, after := _, guard := _ }) rfl (fun K hK => ?_) AllReadyH.nil)
          · go_simp
            have E1 : Ext wB (wd.alloc (.cells #[] 42)) := Ext.alloc ED _
            have R1 := row_mono (row_empty3 wd 42) (show wB.heap.size ≤ wd.heap.size from ED.size)
            obtain ⟨g29, hg29⟩ : ∃ q, q = wd.heap.size := ⟨_, rfl⟩
            have hgl : wB.heap.size ≤ g29 := by rw [hg29]; exact ED.size
            have hlt29 : g29 < (wd.alloc (.cells #[] 42)).heap.size := by rw [hg29]; simp
            rw [← hg29] at R1 ⊢
            clear hg29
            obtain ⟨wk1, hw1⟩ : ∃ W, W = wd.alloc (.cells #[] 42) := ⟨_, rfl⟩
            rw [← hw1] at E1 R1 hlt29 ⊢
            clear hw1
            refine hK.out _ _ (by first | exact SKP.out _ E1 | (dsimp only; exact SKP.out _ E1)) (fun hHeld => ?_)
            clear hK K
            try simp only [Act.put, List.setIfInBounds_toArray, List.set_cons_zero, List.set_cons_succ]
            refine wpAnyH_ready (rs := [4, 6]) (by kernel_rfl) (by simp) ?_
            refine AllReadyH.cons (o := { dst := some 33, op := _, type := _, pos := _, after := _, guard := _ }) rfl (fun K hK => ?_) (AllReadyH.cons (o := { dst := some 35, op := _, type := _, pos := _, after := _, guard := _ }) rfl (fun K hK => ?_) AllReadyH.nil)
            · refine step_src3 (by rfl) (.tmp 29) (.tmp 32) 23 (by rfl) wB.heap.size 42 i0 _ Tryd.underlying23 hi hz0 hz1 hz2 rfl _ 0 [] (by rfl) R1 _ 0 (z3.take (0 * 3)) (by rfl) (HT.out.ext E1) (by omega) E1.size ?_
              intro v2 wk2 R2 G2
              have E2 : Ext wB wk2 := Ext.of_grownAt E1 G2 (fun q hq => (R1.lt q hq).1)
              refine hK.out _ _ (by first | exact SKP.out _ E2 | (dsimp only; exact SKP.out _ E2)) (fun hHeld => ?_)
              clear hK K
              try simp only [Act.put, List.setIfInBounds_toArray, List.set_cons_zero, List.set_cons_succ]
              refine wpAnyH_ready (rs := [6]) (by kernel_rfl) (by simp) ?_
              refine AllReadyH.cons (o := { dst := some 35, op := _, type := _, pos := _, after := _, guard := _ }) rfl (fun K hK => ?_) AllReadyH.nil
              go_simp
              have E3 : Ext wB (wk2.alloc (.cells #[.int .i64 x0, .int .i64 x1, .int .i64 x2] 42)) := Ext.alloc E2 _
              have L3 := lit3_row wk2 x0 x1 x2 42 hx0 hx1 hx2
              have R3 := row_ext R2 ((Ext.refl wk2).alloc (.cells #[.int .i64 x0, .int .i64 x1, .int .i64 x2] 42))
              obtain ⟨g35, hg35⟩ : ∃ q, q = wk2.heap.size := ⟨_, rfl⟩
              rw [← hg35] at L3 ⊢
              clear hg35
              obtain ⟨wk3, hw3⟩ : ∃ W, W = wk2.alloc (.cells #[.int .i64 x0, .int .i64 x1, .int .i64 x2] 42) := ⟨_, rfl⟩
              rw [← hw3] at E3 R3 L3 ⊢
              clear hw3
              refine hK.out _ _ (by first | exact SKP.out _ E3 | (dsimp only; exact SKP.out _ E3)) (fun hHeld => ?_)
              clear hK K
              try simp only [Act.put, List.setIfInBounds_toArray, List.set_cons_zero, List.set_cons_succ]
              refine wpAnyH_ready (rs := [7]) (by kernel_rfl) (by simp) ?_
              refine AllReadyH.cons (o := { dst := some 36, op := _, type := _, pos := _, after := _, guard := _ }) rfl (fun K hK => ?_) AllReadyH.nil
              refine step_src3 (by rfl) (.tmp 33) (.tmp 35) 23 (by rfl) wB.heap.size 42 i0 _ Tryd.underlying23 hi hz0 hz1 hz2 rfl _ (0 + 0) _ (by rfl) R3 _ 1 [x0, x1, x2] (by rfl) L3 (by omega) E3.size ?_
              intro v4 wk4 R4 G4
              have E4 : Ext wB wk4 := Ext.of_grownAt E3 G4 (fun q hq => (R3.lt q hq).1)
              refine hK.out _ _ (by first | exact SKP.out _ E4 | (dsimp only; exact SKP.out _ E4)) (fun hHeld => ?_)
              clear hK K
              try simp only [Act.put, List.setIfInBounds_toArray, List.set_cons_zero, List.set_cons_succ]
              refine wpAnyH_ready (rs := [11]) (by kernel_rfl) (by simp) ?_
              refine AllReadyH.cons (o := { dst := some 40, op := _, type := _, pos := _, after := _, guard := _ }) rfl (fun K hK => ?_) AllReadyH.nil
              refine step_src3 (by rfl) (.tmp 36) (.tmp 39) 23 (by rfl) wB.heap.size 42 i0 _ Tryd.underlying23 hi hz0 hz1 hz2 rfl _ (0 + 0 + 1) _ (by rfl) R4 _ (0 - 0) (z3.drop (0 * 3)) (by rfl) (HD.out.ext E4) (by omega) E4.size ?_
              intro v5 wk5 R5 G5
              have E5 : Ext wB wk5 := Ext.of_grownAt E4 G5 (fun q hq => (R4.lt q hq).1)
              refine hK.out _ _ (by first | exact SKP.out _ E5 | (dsimp only; exact SKP.out _ E5)) (fun hHeld => ?_)
              clear hK K
              try simp only [Act.put, List.setIfInBounds_toArray, List.set_cons_zero, List.set_cons_succ]
              refine wpAnyH_take (i := 12) (oi := { dst := some 4, op := _, type := _, pos := _, after := _, guard := _ }) (v := ?_) rfl (by kernel_rfl) (by kernel_rfl) (by kernel_rfl) (fun _ _ _ h => h) (Or.inl ⟨by rfl, ?_⟩) (by assumption) ?_
              rotate_left
              · (intro w hSw; (try dsimp only at hSw); go_simp) <;> (first | done | with_reducible rfl | rfl)
              try simp only [Act.put, List.setIfInBounds_toArray, List.set_cons_zero, List.set_cons_succ]
              refine wpAnyH_done (by kernel_rfl) ?_ _
              refine NoPanic.normal ?_
              go_wp2_with (fail)
              go_roundw
              case rel =>
                refine ⟨0 + 1, by omega, by first | go_num | rfl, ?_, EW.trans E5⟩
                rw [HNX.out, show (insZ z3 0 x0 x1 x2).map (Value.int .i64) = [] ++ (z3.take (0 * 3)).map (Value.int .i64) ++ [x0, x1, x2].map (Value.int .i64) ++ (z3.drop (0 * 3)).map (Value.int .i64) by simp [insZ]]
                have eK : 0 + 0 + 1 + (0 - 0) = 0 + 1 := by omega
                rw [eK] at R5
                exact row_mono R5 EW.size
              case measure => simp [intOf]; omega
            · go_simp
              have E6 : Ext wB (wk1.alloc (.cells #[.int .i64 x0, .int .i64 x1, .int .i64 x2] 42)) := Ext.alloc E1 _
              have L6 := lit3_row wk1 x0 x1 x2 42 hx0 hx1 hx2
              have R6 := row_ext R1 ((Ext.refl wk1).alloc (.cells #[.int .i64 x0, .int .i64 x1, .int .i64 x2] 42))
              obtain ⟨g35, hg35⟩ : ∃ q, q = wk1.heap.size := ⟨_, rfl⟩
              have hne : g29 ≠ g35 := by rw [hg35]; omega
              rw [← hg35] at L6 ⊢
              clear hg35
              obtain ⟨wk6, hw6⟩ : ∃ W, W = wk1.alloc (.cells #[.int .i64 x0, .int .i64 x1, .int .i64 x2] 42) := ⟨_, rfl⟩
              rw [← hw6] at E6 R6 L6 ⊢
              clear hw6
              refine hK.out _ _ (by first | exact SKP.out _ E6 | (dsimp only; exact SKP.out _ E6)) (fun hHeld => ?_)
              clear hK K
              try simp only [Act.put, List.setIfInBounds_toArray, List.set_cons_zero, List.set_cons_succ]
              refine wpAnyH_ready (rs := [4]) (by kernel_rfl) (by simp) ?_
              refine AllReadyH.cons (o := { dst := some 33, op := _, type := _, pos := _, after := _, guard := _ }) rfl (fun K hK => ?_) AllReadyH.nil
              refine step_src3 (by rfl) (.tmp 29) (.tmp 32) 23 (by rfl) wB.heap.size 42 i0 _ Tryd.underlying23 hi hz0 hz1 hz2 rfl _ 0 [] (by rfl) R6 _ 0 (z3.take (0 * 3)) (by rfl) (HT.out.ext E6) (by omega) E6.size ?_
              intro v7 wk7 R7 G7
              have E7 : Ext wB wk7 := Ext.of_grownAt E6 G7 (fun q hq => (R6.lt q hq).1)
              have L7 := introw_far3 L6 G7 (by simp [Value.ownBlock]; omega)
              refine hK.out _ _ (by first | exact SKP.out _ E7 | (dsimp only; exact SKP.out _ E7)) (fun hHeld => ?_)
              clear hK K
              try simp only [Act.put, List.setIfInBounds_toArray, List.set_cons_zero, List.set_cons_succ]
              refine wpAnyH_ready (rs := [7]) (by kernel_rfl) (by simp) ?_
              refine AllReadyH.cons (o := { dst := some 36, op := _, type := _, pos := _, after := _, guard := _ }) rfl (fun K hK => ?_) AllReadyH.nil
              refine step_src3 (by rfl) (.tmp 33) (.tmp 35) 23 (by rfl) wB.heap.size 42 i0 _ Tryd.underlying23 hi hz0 hz1 hz2 rfl _ (0 + 0) _ (by rfl) R7 _ 1 [x0, x1, x2] (by rfl) L7 (by omega) E7.size ?_
              intro v8 wk8 R8 G8
              have E8 : Ext wB wk8 := Ext.of_grownAt E7 G8 (fun q hq => (R7.lt q hq).1)
              refine hK.out _ _ (by first | exact SKP.out _ E8 | (dsimp only; exact SKP.out _ E8)) (fun hHeld => ?_)
              clear hK K
              try simp only [Act.put, List.setIfInBounds_toArray, List.set_cons_zero, List.set_cons_succ]
              refine wpAnyH_ready (rs := [11]) (by kernel_rfl) (by simp) ?_
              refine AllReadyH.cons (o := { dst := some 40, op := _, type := _, pos := _, after := _, guard := _ }) rfl (fun K hK => ?_) AllReadyH.nil
              refine step_src3 (by rfl) (.tmp 36) (.tmp 39) 23 (by rfl) wB.heap.size 42 i0 _ Tryd.underlying23 hi hz0 hz1 hz2 rfl _ (0 + 0 + 1) _ (by rfl) R8 _ (0 - 0) (z3.drop (0 * 3)) (by rfl) (HD.out.ext E8) (by omega) E8.size ?_
              intro v9 wk9 R9 G9
              have E9 : Ext wB wk9 := Ext.of_grownAt E8 G9 (fun q hq => (R8.lt q hq).1)
              refine hK.out _ _ (by first | exact SKP.out _ E9 | (dsimp only; exact SKP.out _ E9)) (fun hHeld => ?_)
              clear hK K
              try simp only [Act.put, List.setIfInBounds_toArray, List.set_cons_zero, List.set_cons_succ]
              refine wpAnyH_take (i := 12) (oi := { dst := some 4, op := _, type := _, pos := _, after := _, guard := _ }) (v := ?_) rfl (by kernel_rfl) (by kernel_rfl) (by kernel_rfl) (fun _ _ _ h => h) (Or.inl ⟨by rfl, ?_⟩) (by assumption) ?_
              rotate_left
              · (intro w hSw; (try dsimp only at hSw); go_simp) <;> (first | done | with_reducible rfl | rfl)
              try simp only [Act.put, List.setIfInBounds_toArray, List.set_cons_zero, List.set_cons_succ]
              refine wpAnyH_done (by kernel_rfl) ?_ _
              refine NoPanic.normal ?_
              go_wp2_with (fail)
              go_roundw
              case rel =>
                refine ⟨0 + 1, by omega, by first | go_num | rfl, ?_, EW.trans E9⟩
                rw [HNX.out, show (insZ z3 0 x0 x1 x2).map (Value.int .i64) = [] ++ (z3.take (0 * 3)).map (Value.int .i64) ++ [x0, x1, x2].map (Value.int .i64) ++ (z3.drop (0 * 3)).map (Value.int .i64) by simp [insZ]]
                have eK : 0 + 0 + 1 + (0 - 0) = 0 + 1 := by omega
                rw [eK] at R9
                exact row_mono R9 EW.size
              case measure => simp [intOf]; omega
          · go_simp
            have E10 : Ext wB (wd.alloc (.cells #[.int .i64 x0, .int .i64 x1, .int .i64 x2] 42)) := Ext.alloc ED _
            have L10 := lit3_row wd x0 x1 x2 42 hx0 hx1 hx2
            obtain ⟨g35, hg35⟩ : ∃ q, q = wd.heap.size := ⟨_, rfl⟩
            have hlt35 : g35 < (wd.alloc (.cells #[.int .i64 x0, .int .i64 x1, .int .i64 x2] 42)).heap.size := by rw [hg35]; simp
            rw [← hg35] at L10 ⊢
            clear hg35
            obtain ⟨wk10, hw10⟩ : ∃ W, W = wd.alloc (.cells #[.int .i64 x0, .int .i64 x1, .int .i64 x2] 42) := ⟨_, rfl⟩
            rw [← hw10] at E10 L10 hlt35 ⊢
            clear hw10
            refine hK.out _ _ (by first | exact SKP.out _ E10 | (dsimp only; exact SKP.out _ E10)) (fun hHeld => ?_)
            clear hK K
            try simp only [Act.put, List.setIfInBounds_toArray, List.set_cons_zero, List.set_cons_succ]
            refine wpAnyH_ready (rs := [0]) (by kernel_rfl) (by simp) ?_
            refine AllReadyH.cons (o := { dst := some 29, op := _, type := _, pos := _, after := _, guard := _ }) rfl (fun K hK => ?_) AllReadyH.nil
            go_simp
            have E11 : Ext wB (wk10.alloc (.cells #[] 42)) := Ext.alloc E10 _
            have R11 := row_mono (row_empty3 wk10 42) (show wB.heap.size ≤ wk10.heap.size from E10.size)
            have L11 := IntRow.ext L10 ((Ext.refl wk10).alloc (.cells #[] 42))
            obtain ⟨g29, hg29⟩ : ∃ q, q = wk10.heap.size := ⟨_, rfl⟩
            have hne : g29 ≠ g35 := by rw [hg29]; omega
            have hgl : wB.heap.size ≤ g29 := by rw [hg29]; exact E10.size
            rw [← hg29] at R11 ⊢
            clear hg29
            obtain ⟨wk11, hw11⟩ : ∃ W, W = wk10.alloc (.cells #[] 42) := ⟨_, rfl⟩
            rw [← hw11] at E11 R11 L11 ⊢
            clear hw11
            refine hK.out _ _ (by first | exact SKP.out _ E11 | (dsimp only; exact SKP.out _ E11)) (fun hHeld => ?_)
            clear hK K
            try simp only [Act.put, List.setIfInBounds_toArray, List.set_cons_zero, List.set_cons_succ]
            refine wpAnyH_ready (rs := [4]) (by kernel_rfl) (by simp) ?_
            refine AllReadyH.cons (o := { dst := some 33, op := _, type := _, pos := _, after := _, guard := _ }) rfl (fun K hK => ?_) AllReadyH.nil
            refine step_src3 (by rfl) (.tmp 29) (.tmp 32) 23 (by rfl) wB.heap.size 42 i0 _ Tryd.underlying23 hi hz0 hz1 hz2 rfl _ 0 [] (by rfl) R11 _ 0 (z3.take (0 * 3)) (by rfl) (HT.out.ext E11) (by omega) E11.size ?_
            intro v12 wk12 R12 G12
            have E12 : Ext wB wk12 := Ext.of_grownAt E11 G12 (fun q hq => (R11.lt q hq).1)
            have L12 := introw_far3 L11 G12 (by simp [Value.ownBlock]; omega)
            refine hK.out _ _ (by first | exact SKP.out _ E12 | (dsimp only; exact SKP.out _ E12)) (fun hHeld => ?_)
            clear hK K
            try simp only [Act.put, List.setIfInBounds_toArray, List.set_cons_zero, List.set_cons_succ]
            refine wpAnyH_ready (rs := [7]) (by kernel_rfl) (by simp) ?_
            refine AllReadyH.cons (o := { dst := some 36, op := _, type := _, pos := _, after := _, guard := _ }) rfl (fun K hK => ?_) AllReadyH.nil
            refine step_src3 (by rfl) (.tmp 33) (.tmp 35) 23 (by rfl) wB.heap.size 42 i0 _ Tryd.underlying23 hi hz0 hz1 hz2 rfl _ (0 + 0) _ (by rfl) R12 _ 1 [x0, x1, x2] (by rfl) L12 (by omega) E12.size ?_
            intro v13 wk13 R13 G13
            have E13 : Ext wB wk13 := Ext.of_grownAt E12 G13 (fun q hq => (R12.lt q hq).1)
            refine hK.out _ _ (by first | exact SKP.out _ E13 | (dsimp only; exact SKP.out _ E13)) (fun hHeld => ?_)
            clear hK K
            try simp only [Act.put, List.setIfInBounds_toArray, List.set_cons_zero, List.set_cons_succ]
            refine wpAnyH_ready (rs := [11]) (by kernel_rfl) (by simp) ?_
            refine AllReadyH.cons (o := { dst := some 40, op := _, type := _, pos := _, after := _, guard := _ }) rfl (fun K hK => ?_) AllReadyH.nil
            refine step_src3 (by rfl) (.tmp 36) (.tmp 39) 23 (by rfl) wB.heap.size 42 i0 _ Tryd.underlying23 hi hz0 hz1 hz2 rfl _ (0 + 0 + 1) _ (by rfl) R13 _ (0 - 0) (z3.drop (0 * 3)) (by rfl) (HD.out.ext E13) (by omega) E13.size ?_
            intro v14 wk14 R14 G14
            have E14 : Ext wB wk14 := Ext.of_grownAt E13 G14 (fun q hq => (R13.lt q hq).1)
            refine hK.out _ _ (by first | exact SKP.out _ E14 | (dsimp only; exact SKP.out _ E14)) (fun hHeld => ?_)
            clear hK K
            try simp only [Act.put, List.setIfInBounds_toArray, List.set_cons_zero, List.set_cons_succ]
            refine wpAnyH_take (i := 12) (oi := { dst := some 4, op := _, type := _, pos := _, after := _, guard := _ }) (v := ?_) rfl (by kernel_rfl) (by kernel_rfl) (by kernel_rfl) (fun _ _ _ h => h) (Or.inl ⟨by rfl, ?_⟩) (by assumption) ?_
            rotate_left
            · (intro w hSw; (try dsimp only at hSw); go_simp) <;> (first | done | with_reducible rfl | rfl)
            try simp only [Act.put, List.setIfInBounds_toArray, List.set_cons_zero, List.set_cons_succ]
            refine wpAnyH_done (by kernel_rfl) ?_ _
            refine NoPanic.normal ?_
            go_wp2_with (fail)
            go_roundw
            case rel =>
              refine ⟨0 + 1, by omega, by first | go_num | rfl, ?_, EW.trans E14⟩
              rw [HNX.out, show (insZ z3 0 x0 x1 x2).map (Value.int .i64) = [] ++ (z3.take (0 * 3)).map (Value.int .i64) ++ [x0, x1, x2].map (Value.int .i64) ++ (z3.drop (0 * 3)).map (Value.int .i64) by simp [insZ]]
              have eK : 0 + 0 + 1 + (0 - 0) = 0 + 1 := by omega
              rw [eK] at R14
              exact row_mono R14 EW.size
            case measure => simp [intOf]; omega
      · subst hv4
        go_wp2_with (fail)
        have AXw : ∀ W : World, W = wr.alloc (.cells #[.int .i64 x0, .int .i64 x1, .int .i64 x2] 42) → W.cell? ⟨wr.heap.size, 0, none⟩ = some (.int .i64 x0) ∧ W.cell? ⟨wr.heap.size, 1, none⟩ = some (.int .i64 x1) ∧ W.cell? ⟨wr.heap.size, 2, none⟩ = some (.int .i64 x2) ∧ wr.heap.size < W.heap.size ∧ Ext w W ∧ Ext wr W := by
          rintro W rfl
          exact ⟨by simp [go_sem], by simp [go_sem], by simp [go_sem], by simp, hE.alloc _, (Ext.refl _).alloc _⟩
        obtain ⟨wo, hwo⟩ : ∃ W, W = wr.alloc (.cells #[.int .i64 x0, .int .i64 x1, .int .i64 x2] 42) := ⟨_, rfl⟩
        obtain ⟨t0, t1, t2, hgo, hEo, hErw⟩ := AXw wo hwo
        have hrowo := row_ext hrow hErw
        have HRo := hid (HR0.out.ext hErw)
        rw [← hwo]
        obtain ⟨gx, hgx⟩ : ∃ q, q = wr.heap.size := ⟨_, rfl⟩
        rw [← hgx] at t0 t1 t2 hgo ⊢
        have HXB := hid (And.intro t0 (And.intro t1 t2))
        clear AXw hwo hgx s0 s1 s2 t0 t1 t2 hErw hrow HR0 hbr hE
        have hkpos : k ≤ c4 := hg4c
        have hc4 : c4 ≤ 9223372036854775807 := by have := hg4d; unfold maxLen at this; omega
        have HCE := hid (fun j (hj : j < k * 3) => show wo.cell? ⟨g4, j, none⟩ = some (.int .i64 (z3.getD j 0)) by rw [hrowo.cellAt j hj, map_getD (by omega)])
        have hg4s : g4 < wo.heap.size := (hrowo.lt g4 rfl).2
        clear hrowo
        go_loopw [7] (fun q wr => ∃ (m : Nat), m ≤ k ∧ q = .int .i64 (m : Int) ∧ insK z3 x0 x1 k = insK z3 x0 x1 m ∧ Ext wo wr) (fun q _ => (intOf q).toNat)
        case atStart => exact ⟨k, Nat.le_refl _, rfl, rfl, Ext.refl _⟩
        case round =>
          obtain ⟨m, hmk, rfl, him, hEr⟩ := hrel
          have HIM := hid him
          clear him
          have t0 : wr.cell? ⟨gx, 0, none⟩ = some (.int .i64 x0) := by rw [(Ext.cells hEr).1 _ _ hgo]; exact HXB.out.1
          have t1 : wr.cell? ⟨gx, 1, none⟩ = some (.int .i64 x1) := by rw [(Ext.cells hEr).1 _ _ hgo]; exact HXB.out.2.1
          have t2 : wr.cell? ⟨gx, 2, none⟩ = some (.int .i64 x2) := by rw [(Ext.cells hEr).1 _ _ hgo]; exact HXB.out.2.2
          have hmc : (m : Int) ≤ c4 := by omega
          have hmk2 : (m : Int) ≤ k := by omega
          have hm00 : (0 : Int) ≤ (m : Int) := Int.natCast_nonneg _
          by_cases hm0 : 0 < m
          · have hk2 : decide (0 < m) = true := decide_eq_true hm0
            have hk1 : 1 ≤ m := hm0
            obtain ⟨p0, hp0⟩ : ∃ x, x = shOp z3 (m - 1) := ⟨_, rfl⟩
            obtain ⟨p1, hp1⟩ : ∃ x, x = shFr z3 (m - 1) := ⟨_, rfl⟩
            obtain ⟨p2, hp2⟩ : ∃ x, x = shTo z3 (m - 1) := ⟨_, rfl⟩
            have y0 : wr.cell? ⟨g4, (m - 1) * 3, none⟩ = some (.int .i64 p0) := by rw [(Ext.cells hEr).1 _ _ hg4s, HCE.out _ (by omega), hp0]; rfl
            have y1 : wr.cell? ⟨g4, (m - 1) * 3 + 1, none⟩ = some (.int .i64 p1) := by rw [(Ext.cells hEr).1 _ _ hg4s, HCE.out _ (by omega), hp1]; rfl
            have y2 : wr.cell? ⟨g4, (m - 1) * 3 + 2, none⟩ = some (.int .i64 p2) := by rw [(Ext.cells hEr).1 _ _ hg4s, HCE.out _ (by omega), hp2]; rfl
            have HBF := hid (show befB x0 x1 (shOp z3 (m - 1)) (shFr z3 (m - 1)) = befB x0 x1 p0 p1 by rw [hp0, hp1])
            clear hp0 hp1 hp2
            have hs1 : IntKind.i64.wrap ((m : Int) - 1) = (m : Int) - 1 := IntWalk.i64_in _ (by omega)
            have hs2 : ((m : Int) - 1).toNat = m - 1 := by omega
            have hs3 : (1 : Int) ≤ (m : Int) := by omega
            have hs4 : (m : Int) - 1 < k := by omega
            have hs5 : m - 1 < k := by omega
            go_wp2_with (fail)
            refine wp_region_still_tail 9 (by kernel_rfl) (by kernel_rfl) ?_
            simp only [List.take_succ_cons, List.take_zero, List.drop_succ_cons, List.drop_zero]
            repeat still_step
            try refine wpStill_nil ?_
            clear hs1 hs2 hs3 hs4 hs5
            change wpList _ _ _ _ _ wr.drew
            have hEy : Ext wo wr.drew := hEr.drew
            clear t0 t1 t2 y0 y1 y2 hEr
            generalize wr.drew = wy at *
            go_wp2_with (fail)
            refine (shBefore_any _ _ _ _ _ _ _).mono ?_
            cases hbef : befB x0 x1 p0 p1 with
            | true =>
              rintro e w5 ⟨rfl, hb5⟩
              have HSTP := hid (insK_step (z := z3) (o := x0) (f := x1) (m := k) (k := m - 1) (by rw [HIM.out, show m - 1 + 1 = m by omega]) (by rw [HBF.out]; exact hbef))
              clear hbef
              go_wp2_with (fail)
              go_roundw
              case rel => exact ⟨m - 1, by omega, by congr 1; omega, HSTP.out, hEy.trans hb5⟩
              case measure => simp [intOf]; omega
            | false =>
              rintro e wB ⟨rfl, hb5⟩
              have EB0 : Ext wo wB := hEy.trans hb5
              have HINS := hid (show insK z3 x0 x1 k = m by
                have := insK_stop (z := z3) (o := x0) (f := x1) (m := k) (k := m - 1) (by rw [HIM.out, show m - 1 + 1 = m by omega]) (by rw [HBF.out]; exact hbef)
                omega)
              clear hbef hb5 hEy
              by_cases hcm4 : c4 = m
              · obtain rfl : m = c4 := hcm4.symm
                have EW : Ext w wB := hEo.trans EB0
                have EB : Ext wB wB := Ext.refl _
                have SKP := hid (fun (W : World) (hW : Ext wB W) => show W.cell? ⟨gx, 0, none⟩ = some (.int .i64 x0) ∧ W.cell? ⟨gx, 1, none⟩ = some (.int .i64 x1) ∧ W.cell? ⟨gx, 2, none⟩ = some (.int .i64 x2) from ⟨by rw [(Ext.cells (EB0.trans hW)).1 _ _ hgo]; exact HXB.out.1, by rw [(Ext.cells (EB0.trans hW)).1 _ _ hgo]; exact HXB.out.2.1, by rw [(Ext.cells (EB0.trans hW)).1 _ _ hgo]; exact HXB.out.2.2⟩)
                have HNX := hid (show srtZ z (k + 1) = insZ z3 m x0 x1 x2 by rw [HNX0.out, HINS.out])
                go_wp2_with (fail)
                have HT := hid (show IntRow .i64 3 wB (.slice (some ⟨g4, 0, none⟩) m m) m (z3.take (m * 3)) from take3 (HRo.out.ext EB0) hmk)
                have HD := hid (show IntRow .i64 3 wB (.slice (some ⟨g4, 0, none⟩) 0 0) (k - m) (z3.drop (m * 3)) from by rw [show k - m = 0 by omega, show z3.drop (m * 3) = [] from List.drop_eq_nil_of_le (by omega)]; exact none3 _ _ _ (Nat.zero_le _))
                refine wp_region_noPanic ?_
                refine wp_region_held_drew (S := (fun W => W.cell? ⟨gx, 0, none⟩ = some (.int .i64 x0) ∧ W.cell? ⟨gx, 1, none⟩ = some (.int .i64 x1) ∧ W.cell? ⟨gx, 2, none⟩ = some (.int .i64 x2))) (by kernel_rfl) ?_ (fun hHeld => ?_)
                · first | exact SKP.out _ (EB.drew) | (dsimp only; exact SKP.out _ (EB.drew))
                have ED := EB.drew
                generalize wB.drew = wd at *
                refine wpAnyH_take (i := 1) (oi := { dst := some 30, op := _, type := _, pos := _, after := _, guard := _ }) (v := ?_) rfl (by kernel_rfl) (by kernel_rfl) (by kernel_rfl) (fun _ _ _ h => h) (Or.inl ⟨by rfl, ?_⟩) (by assumption) ?_
                rotate_left
                · (intro w hSw; (try dsimp only at hSw); go_simp) <;> (first | done | with_reducible rfl | rfl)
                try simp only [Act.put, List.setIfInBounds_toArray, List.set_cons_zero, List.set_cons_succ]
                refine wpAnyH_take (i := 2) (oi := { dst := some 31, op := _, type := _, pos := _, after := _, guard := _ }) (v := ?_) rfl (by kernel_rfl) (by kernel_rfl) (by kernel_rfl) (fun _ _ _ h => h) (Or.inl ⟨by rfl, ?_⟩) (by assumption) ?_
                rotate_left
                · (intro w hSw; (try dsimp only at hSw); go_simp) <;> (first | done | with_reducible rfl | rfl)
                try simp only [Act.put, List.setIfInBounds_toArray, List.set_cons_zero, List.set_cons_succ]
                refine wpAnyH_take (i := 3) (oi := { dst := some 32, op := _, type := _, pos := _, after := _, guard := _ }) (v := ?_) rfl (by kernel_rfl) (by kernel_rfl) (by kernel_rfl) (fun _ _ _ h => h) (Or.inl ⟨by rfl, ?_⟩) (by assumption) ?_
                rotate_left
                · (intro w hSw; (try dsimp only at hSw); go_simp) <;> (first | done | with_reducible rfl | rfl)
                try simp only [Act.put, List.setIfInBounds_toArray, List.set_cons_zero, List.set_cons_succ]
                refine wpAnyH_take (i := 5) (oi := { dst := some 34, op := _, type := _, pos := _, after := _, guard := _ }) (v := ?_) rfl (by kernel_rfl) (by kernel_rfl) (by kernel_rfl) (fun _ _ _ h => h) (Or.inl ⟨by rfl, ?_⟩) (by assumption) ?_
                rotate_left
                · (intro w hSw; (try dsimp only at hSw); go_simp) <;> (first | done | with_reducible rfl | rfl)
                try simp only [Act.put, List.setIfInBounds_toArray, List.set_cons_zero, List.set_cons_succ]
                refine wpAnyH_take (i := 8) (oi := { dst := some 37, op := _, type := _, pos := _, after := _, guard := _ }) (v := ?_) rfl (by kernel_rfl) (by kernel_rfl) (by kernel_rfl) (fun _ _ _ h => h) (Or.inl ⟨by rfl, ?_⟩) (by assumption) ?_
                rotate_left
                · (intro w hSw; (try dsimp only at hSw); go_simp) <;> (first | done | with_reducible rfl | rfl)
                try simp only [Act.put, List.setIfInBounds_toArray, List.set_cons_zero, List.set_cons_succ]
                refine wpAnyH_take (i := 9) (oi := { dst := some 38, op := _, type := _, pos := _, after := _, guard := _ }) (v := ?_) rfl (by kernel_rfl) (by kernel_rfl) (by kernel_rfl) (fun _ _ _ h => h) (Or.inl ⟨by rfl, ?_⟩) (by assumption) ?_
                rotate_left
                · (intro w hSw; (try dsimp only at hSw); go_simp) <;> (first | done | with_reducible rfl | rfl)
                try simp only [Act.put, List.setIfInBounds_toArray, List.set_cons_zero, List.set_cons_succ]
                refine wpAnyH_take (i := 10) (oi := { dst := some 39, op := _, type := _, pos := _, after := _, guard := _ }) (v := ?_) rfl (by kernel_rfl) (by kernel_rfl) (by kernel_rfl) (fun _ _ _ h => h) (Or.inl ⟨by rfl, ?_⟩) (by assumption) ?_
                rotate_left
                · (intro w hSw; (try dsimp only at hSw); go_simp) <;> (first | done | with_reducible rfl | rfl)
                try simp only [Act.put, List.setIfInBounds_toArray, List.set_cons_zero, List.set_cons_succ]
                refine wpAnyH_ready (rs := [0, 6]) (by kernel_rfl) (by simp) ?_
                refine AllReadyH.cons (o := { dst := some 29, op := _, type := _, pos := _, after := _, guard := _ }) rfl (fun K hK => ?_) (AllReadyH.cons (o := { dst := some 35, op := _, type := _, pos := _, after := _, guard := _ }) rfl (fun K hK => ?_) AllReadyH.nil)
                · go_simp
                  have E1 : Ext wB (wd.alloc (.cells #[] 42)) := Ext.alloc ED _
                  have R1 := row_mono (row_empty3 wd 42) (show wB.heap.size ≤ wd.heap.size from ED.size)
                  obtain ⟨g29, hg29⟩ : ∃ q, q = wd.heap.size := ⟨_, rfl⟩
                  have hgl : wB.heap.size ≤ g29 := by rw [hg29]; exact ED.size
                  have hlt29 : g29 < (wd.alloc (.cells #[] 42)).heap.size := by rw [hg29]; simp
                  rw [← hg29] at R1 ⊢
                  clear hg29
                  obtain ⟨wk1, hw1⟩ : ∃ W, W = wd.alloc (.cells #[] 42) := ⟨_, rfl⟩
                  rw [← hw1] at E1 R1 hlt29 ⊢
                  clear hw1
                  refine hK.out _ _ (by first | exact SKP.out _ E1 | (dsimp only; exact SKP.out _ E1)) (fun hHeld => ?_)
                  clear hK K
                  try simp only [Act.put, List.setIfInBounds_toArray, List.set_cons_zero, List.set_cons_succ]
                  refine wpAnyH_ready (rs := [4, 6]) (by kernel_rfl) (by simp) ?_
                  refine AllReadyH.cons (o := { dst := some 33, op := _, type := _, pos := _, after := _, guard := _ }) rfl (fun K hK => ?_) (AllReadyH.cons (o := { dst := some 35, op := _, type := _, pos := _, after := _, guard := _ }) rfl (fun K hK => ?_) AllReadyH.nil)
                  · refine step_src3 (by rfl) (.tmp 29) (.tmp 32) 23 (by rfl) wB.heap.size 42 i0 _ Tryd.underlying23 hi hz0 hz1 hz2 rfl _ 0 [] (by rfl) R1 _ m (z3.take (m * 3)) (by rfl) (HT.out.ext E1) (by omega) E1.size ?_
                    intro v2 wk2 R2 G2
                    have E2 : Ext wB wk2 := Ext.of_grownAt E1 G2 (fun q hq => (R1.lt q hq).1)
                    refine hK.out _ _ (by first | exact SKP.out _ E2 | (dsimp only; exact SKP.out _ E2)) (fun hHeld => ?_)
                    clear hK K
                    try simp only [Act.put, List.setIfInBounds_toArray, List.set_cons_zero, List.set_cons_succ]
                    refine wpAnyH_ready (rs := [6]) (by kernel_rfl) (by simp) ?_
                    refine AllReadyH.cons (o := { dst := some 35, op := _, type := _, pos := _, after := _, guard := _ }) rfl (fun K hK => ?_) AllReadyH.nil
                    go_simp
                    have E3 : Ext wB (wk2.alloc (.cells #[.int .i64 x0, .int .i64 x1, .int .i64 x2] 42)) := Ext.alloc E2 _
                    have L3 := lit3_row wk2 x0 x1 x2 42 hx0 hx1 hx2
                    have R3 := row_ext R2 ((Ext.refl wk2).alloc (.cells #[.int .i64 x0, .int .i64 x1, .int .i64 x2] 42))
                    obtain ⟨g35, hg35⟩ : ∃ q, q = wk2.heap.size := ⟨_, rfl⟩
                    rw [← hg35] at L3 ⊢
                    clear hg35
                    obtain ⟨wk3, hw3⟩ : ∃ W, W = wk2.alloc (.cells #[.int .i64 x0, .int .i64 x1, .int .i64 x2] 42) := ⟨_, rfl⟩
                    rw [← hw3] at E3 R3 L3 ⊢
                    clear hw3
                    refine hK.out _ _ (by first | exact SKP.out _ E3 | (dsimp only; exact SKP.out _ E3)) (fun hHeld => ?_)
                    clear hK K
                    try simp only [Act.put, List.setIfInBounds_toArray, List.set_cons_zero, List.set_cons_succ]
                    refine wpAnyH_ready (rs := [7]) (by kernel_rfl) (by simp) ?_
                    refine AllReadyH.cons (o := { dst := some 36, op := _, type := _, pos := _, after := _, guard := _ }) rfl (fun K hK => ?_) AllReadyH.nil
                    refine step_src3 (by rfl) (.tmp 33) (.tmp 35) 23 (by rfl) wB.heap.size 42 i0 _ Tryd.underlying23 hi hz0 hz1 hz2 rfl _ (0 + m) _ (by rfl) R3 _ 1 [x0, x1, x2] (by rfl) L3 (by omega) E3.size ?_
                    intro v4 wk4 R4 G4
                    have E4 : Ext wB wk4 := Ext.of_grownAt E3 G4 (fun q hq => (R3.lt q hq).1)
                    refine hK.out _ _ (by first | exact SKP.out _ E4 | (dsimp only; exact SKP.out _ E4)) (fun hHeld => ?_)
                    clear hK K
                    try simp only [Act.put, List.setIfInBounds_toArray, List.set_cons_zero, List.set_cons_succ]
                    refine wpAnyH_ready (rs := [11]) (by kernel_rfl) (by simp) ?_
                    refine AllReadyH.cons (o := { dst := some 40, op := _, type := _, pos := _, after := _, guard := _ }) rfl (fun K hK => ?_) AllReadyH.nil
                    refine step_src3 (by rfl) (.tmp 36) (.tmp 39) 23 (by rfl) wB.heap.size 42 i0 _ Tryd.underlying23 hi hz0 hz1 hz2 rfl _ (0 + m + 1) _ (by rfl) R4 _ (k - m) (z3.drop (m * 3)) (by rfl) (HD.out.ext E4) (by omega) E4.size ?_
                    intro v5 wk5 R5 G5
                    have E5 : Ext wB wk5 := Ext.of_grownAt E4 G5 (fun q hq => (R4.lt q hq).1)
                    refine hK.out _ _ (by first | exact SKP.out _ E5 | (dsimp only; exact SKP.out _ E5)) (fun hHeld => ?_)
                    clear hK K
                    try simp only [Act.put, List.setIfInBounds_toArray, List.set_cons_zero, List.set_cons_succ]
                    refine wpAnyH_take (i := 12) (oi := { dst := some 4, op := _, type := _, pos := _, after := _, guard := _ }) (v := ?_) rfl (by kernel_rfl) (by kernel_rfl) (by kernel_rfl) (fun _ _ _ h => h) (Or.inl ⟨by rfl, ?_⟩) (by assumption) ?_
                    rotate_left
                    · (intro w hSw; (try dsimp only at hSw); go_simp) <;> (first | done | with_reducible rfl | rfl)
                    try simp only [Act.put, List.setIfInBounds_toArray, List.set_cons_zero, List.set_cons_succ]
                    refine wpAnyH_done (by kernel_rfl) ?_ _
                    refine NoPanic.normal ?_
                    go_wp2_with (fail)
                    go_roundw
                    case rel =>
                      refine ⟨k + 1, by omega, by first | go_num | rfl, ?_, EW.trans E5⟩
                      rw [HNX.out, show (insZ z3 m x0 x1 x2).map (Value.int .i64) = [] ++ (z3.take (m * 3)).map (Value.int .i64) ++ [x0, x1, x2].map (Value.int .i64) ++ (z3.drop (m * 3)).map (Value.int .i64) by simp [insZ]]
                      have eK : 0 + m + 1 + (k - m) = k + 1 := by omega
                      rw [eK] at R5
                      exact row_mono R5 EW.size
                    case measure => simp [intOf]; omega
                  · go_simp
                    have E6 : Ext wB (wk1.alloc (.cells #[.int .i64 x0, .int .i64 x1, .int .i64 x2] 42)) := Ext.alloc E1 _
                    have L6 := lit3_row wk1 x0 x1 x2 42 hx0 hx1 hx2
                    have R6 := row_ext R1 ((Ext.refl wk1).alloc (.cells #[.int .i64 x0, .int .i64 x1, .int .i64 x2] 42))
                    obtain ⟨g35, hg35⟩ : ∃ q, q = wk1.heap.size := ⟨_, rfl⟩
                    have hne : g29 ≠ g35 := by rw [hg35]; omega
                    rw [← hg35] at L6 ⊢
                    clear hg35
                    obtain ⟨wk6, hw6⟩ : ∃ W, W = wk1.alloc (.cells #[.int .i64 x0, .int .i64 x1, .int .i64 x2] 42) := ⟨_, rfl⟩
                    rw [← hw6] at E6 R6 L6 ⊢
                    clear hw6
                    refine hK.out _ _ (by first | exact SKP.out _ E6 | (dsimp only; exact SKP.out _ E6)) (fun hHeld => ?_)
                    clear hK K
                    try simp only [Act.put, List.setIfInBounds_toArray, List.set_cons_zero, List.set_cons_succ]
                    refine wpAnyH_ready (rs := [4]) (by kernel_rfl) (by simp) ?_
                    refine AllReadyH.cons (o := { dst := some 33, op := _, type := _, pos := _, after := _, guard := _ }) rfl (fun K hK => ?_) AllReadyH.nil
                    refine step_src3 (by rfl) (.tmp 29) (.tmp 32) 23 (by rfl) wB.heap.size 42 i0 _ Tryd.underlying23 hi hz0 hz1 hz2 rfl _ 0 [] (by rfl) R6 _ m (z3.take (m * 3)) (by rfl) (HT.out.ext E6) (by omega) E6.size ?_
                    intro v7 wk7 R7 G7
                    have E7 : Ext wB wk7 := Ext.of_grownAt E6 G7 (fun q hq => (R6.lt q hq).1)
                    have L7 := introw_far3 L6 G7 (by simp [Value.ownBlock]; omega)
                    refine hK.out _ _ (by first | exact SKP.out _ E7 | (dsimp only; exact SKP.out _ E7)) (fun hHeld => ?_)
                    clear hK K
                    try simp only [Act.put, List.setIfInBounds_toArray, List.set_cons_zero, List.set_cons_succ]
                    refine wpAnyH_ready (rs := [7]) (by kernel_rfl) (by simp) ?_
                    refine AllReadyH.cons (o := { dst := some 36, op := _, type := _, pos := _, after := _, guard := _ }) rfl (fun K hK => ?_) AllReadyH.nil
                    refine step_src3 (by rfl) (.tmp 33) (.tmp 35) 23 (by rfl) wB.heap.size 42 i0 _ Tryd.underlying23 hi hz0 hz1 hz2 rfl _ (0 + m) _ (by rfl) R7 _ 1 [x0, x1, x2] (by rfl) L7 (by omega) E7.size ?_
                    intro v8 wk8 R8 G8
                    have E8 : Ext wB wk8 := Ext.of_grownAt E7 G8 (fun q hq => (R7.lt q hq).1)
                    refine hK.out _ _ (by first | exact SKP.out _ E8 | (dsimp only; exact SKP.out _ E8)) (fun hHeld => ?_)
                    clear hK K
                    try simp only [Act.put, List.setIfInBounds_toArray, List.set_cons_zero, List.set_cons_succ]
                    refine wpAnyH_ready (rs := [11]) (by kernel_rfl) (by simp) ?_
                    refine AllReadyH.cons (o := { dst := some 40, op := _, type := _, pos := _, after := _, guard := _ }) rfl (fun K hK => ?_) AllReadyH.nil
                    refine step_src3 (by rfl) (.tmp 36) (.tmp 39) 23 (by rfl) wB.heap.size 42 i0 _ Tryd.underlying23 hi hz0 hz1 hz2 rfl _ (0 + m + 1) _ (by rfl) R8 _ (k - m) (z3.drop (m * 3)) (by rfl) (HD.out.ext E8) (by omega) E8.size ?_
                    intro v9 wk9 R9 G9
                    have E9 : Ext wB wk9 := Ext.of_grownAt E8 G9 (fun q hq => (R8.lt q hq).1)
                    refine hK.out _ _ (by first | exact SKP.out _ E9 | (dsimp only; exact SKP.out _ E9)) (fun hHeld => ?_)
                    clear hK K
                    try simp only [Act.put, List.setIfInBounds_toArray, List.set_cons_zero, List.set_cons_succ]
                    refine wpAnyH_take (i := 12) (oi := { dst := some 4, op := _, type := _, pos := _, after := _, guard := _ }) (v := ?_) rfl (by kernel_rfl) (by kernel_rfl) (by kernel_rfl) (fun _ _ _ h => h) (Or.inl ⟨by rfl, ?_⟩) (by assumption) ?_
                    rotate_left
                    · (intro w hSw; (try dsimp only at hSw); go_simp) <;> (first | done | with_reducible rfl | rfl)
                    try simp only [Act.put, List.setIfInBounds_toArray, List.set_cons_zero, List.set_cons_succ]
                    refine wpAnyH_done (by kernel_rfl) ?_ _
                    refine NoPanic.normal ?_
                    go_wp2_with (fail)
                    go_roundw
                    case rel =>
                      refine ⟨k + 1, by omega, by first | go_num | rfl, ?_, EW.trans E9⟩
                      rw [HNX.out, show (insZ z3 m x0 x1 x2).map (Value.int .i64) = [] ++ (z3.take (m * 3)).map (Value.int .i64) ++ [x0, x1, x2].map (Value.int .i64) ++ (z3.drop (m * 3)).map (Value.int .i64) by simp [insZ]]
                      have eK : 0 + m + 1 + (k - m) = k + 1 := by omega
                      rw [eK] at R9
                      exact row_mono R9 EW.size
                    case measure => simp [intOf]; omega
                · go_simp
                  have E10 : Ext wB (wd.alloc (.cells #[.int .i64 x0, .int .i64 x1, .int .i64 x2] 42)) := Ext.alloc ED _
                  have L10 := lit3_row wd x0 x1 x2 42 hx0 hx1 hx2
                  obtain ⟨g35, hg35⟩ : ∃ q, q = wd.heap.size := ⟨_, rfl⟩
                  have hlt35 : g35 < (wd.alloc (.cells #[.int .i64 x0, .int .i64 x1, .int .i64 x2] 42)).heap.size := by rw [hg35]; simp
                  rw [← hg35] at L10 ⊢
                  clear hg35
                  obtain ⟨wk10, hw10⟩ : ∃ W, W = wd.alloc (.cells #[.int .i64 x0, .int .i64 x1, .int .i64 x2] 42) := ⟨_, rfl⟩
                  rw [← hw10] at E10 L10 hlt35 ⊢
                  clear hw10
                  refine hK.out _ _ (by first | exact SKP.out _ E10 | (dsimp only; exact SKP.out _ E10)) (fun hHeld => ?_)
                  clear hK K
                  try simp only [Act.put, List.setIfInBounds_toArray, List.set_cons_zero, List.set_cons_succ]
                  refine wpAnyH_ready (rs := [0]) (by kernel_rfl) (by simp) ?_
                  refine AllReadyH.cons (o := { dst := some 29, op := _, type := _, pos := _, after := _, guard := _ }) rfl (fun K hK => ?_) AllReadyH.nil
                  go_simp
                  have E11 : Ext wB (wk10.alloc (.cells #[] 42)) := Ext.alloc E10 _
                  have R11 := row_mono (row_empty3 wk10 42) (show wB.heap.size ≤ wk10.heap.size from E10.size)
                  have L11 := IntRow.ext L10 ((Ext.refl wk10).alloc (.cells #[] 42))
                  obtain ⟨g29, hg29⟩ : ∃ q, q = wk10.heap.size := ⟨_, rfl⟩
                  have hne : g29 ≠ g35 := by rw [hg29]; omega
                  have hgl : wB.heap.size ≤ g29 := by rw [hg29]; exact E10.size
                  rw [← hg29] at R11 ⊢
                  clear hg29
                  obtain ⟨wk11, hw11⟩ : ∃ W, W = wk10.alloc (.cells #[] 42) := ⟨_, rfl⟩
                  rw [← hw11] at E11 R11 L11 ⊢
                  clear hw11
                  refine hK.out _ _ (by first | exact SKP.out _ E11 | (dsimp only; exact SKP.out _ E11)) (fun hHeld => ?_)
                  clear hK K
                  try simp only [Act.put, List.setIfInBounds_toArray, List.set_cons_zero, List.set_cons_succ]
                  refine wpAnyH_ready (rs := [4]) (by kernel_rfl) (by simp) ?_
                  refine AllReadyH.cons (o := { dst := some 33, op := _, type := _, pos := _, after := _, guard := _ }) rfl (fun K hK => ?_) AllReadyH.nil
                  refine step_src3 (by rfl) (.tmp 29) (.tmp 32) 23 (by rfl) wB.heap.size 42 i0 _ Tryd.underlying23 hi hz0 hz1 hz2 rfl _ 0 [] (by rfl) R11 _ m (z3.take (m * 3)) (by rfl) (HT.out.ext E11) (by omega) E11.size ?_
                  intro v12 wk12 R12 G12
                  have E12 : Ext wB wk12 := Ext.of_grownAt E11 G12 (fun q hq => (R11.lt q hq).1)
                  have L12 := introw_far3 L11 G12 (by simp [Value.ownBlock]; omega)
                  refine hK.out _ _ (by first | exact SKP.out _ E12 | (dsimp only; exact SKP.out _ E12)) (fun hHeld => ?_)
                  clear hK K
                  try simp only [Act.put, List.setIfInBounds_toArray, List.set_cons_zero, List.set_cons_succ]
                  refine wpAnyH_ready (rs := [7]) (by kernel_rfl) (by simp) ?_
                  refine AllReadyH.cons (o := { dst := some 36, op := _, type := _, pos := _, after := _, guard := _ }) rfl (fun K hK => ?_) AllReadyH.nil
                  refine step_src3 (by rfl) (.tmp 33) (.tmp 35) 23 (by rfl) wB.heap.size 42 i0 _ Tryd.underlying23 hi hz0 hz1 hz2 rfl _ (0 + m) _ (by rfl) R12 _ 1 [x0, x1, x2] (by rfl) L12 (by omega) E12.size ?_
                  intro v13 wk13 R13 G13
                  have E13 : Ext wB wk13 := Ext.of_grownAt E12 G13 (fun q hq => (R12.lt q hq).1)
                  refine hK.out _ _ (by first | exact SKP.out _ E13 | (dsimp only; exact SKP.out _ E13)) (fun hHeld => ?_)
                  clear hK K
                  try simp only [Act.put, List.setIfInBounds_toArray, List.set_cons_zero, List.set_cons_succ]
                  refine wpAnyH_ready (rs := [11]) (by kernel_rfl) (by simp) ?_
                  refine AllReadyH.cons (o := { dst := some 40, op := _, type := _, pos := _, after := _, guard := _ }) rfl (fun K hK => ?_) AllReadyH.nil
                  refine step_src3 (by rfl) (.tmp 36) (.tmp 39) 23 (by rfl) wB.heap.size 42 i0 _ Tryd.underlying23 hi hz0 hz1 hz2 rfl _ (0 + m + 1) _ (by rfl) R13 _ (k - m) (z3.drop (m * 3)) (by rfl) (HD.out.ext E13) (by omega) E13.size ?_
                  intro v14 wk14 R14 G14
                  have E14 : Ext wB wk14 := Ext.of_grownAt E13 G14 (fun q hq => (R13.lt q hq).1)
                  refine hK.out _ _ (by first | exact SKP.out _ E14 | (dsimp only; exact SKP.out _ E14)) (fun hHeld => ?_)
                  clear hK K
                  try simp only [Act.put, List.setIfInBounds_toArray, List.set_cons_zero, List.set_cons_succ]
                  refine wpAnyH_take (i := 12) (oi := { dst := some 4, op := _, type := _, pos := _, after := _, guard := _ }) (v := ?_) rfl (by kernel_rfl) (by kernel_rfl) (by kernel_rfl) (fun _ _ _ h => h) (Or.inl ⟨by rfl, ?_⟩) (by assumption) ?_
                  rotate_left
                  · (intro w hSw; (try dsimp only at hSw); go_simp) <;> (first | done | with_reducible rfl | rfl)
                  try simp only [Act.put, List.setIfInBounds_toArray, List.set_cons_zero, List.set_cons_succ]
                  refine wpAnyH_done (by kernel_rfl) ?_ _
                  refine NoPanic.normal ?_
                  go_wp2_with (fail)
                  go_roundw
                  case rel =>
                    refine ⟨k + 1, by omega, by first | go_num | rfl, ?_, EW.trans E14⟩
                    rw [HNX.out, show (insZ z3 m x0 x1 x2).map (Value.int .i64) = [] ++ (z3.take (m * 3)).map (Value.int .i64) ++ [x0, x1, x2].map (Value.int .i64) ++ (z3.drop (m * 3)).map (Value.int .i64) by simp [insZ]]
                    have eK : 0 + m + 1 + (k - m) = k + 1 := by omega
                    rw [eK] at R14
                    exact row_mono R14 EW.size
                  case measure => simp [intOf]; omega
              · have hcmb : (c4 == m) = false := by simpa using hcm4
                have EW : Ext w wB := hEo.trans EB0
                have EB : Ext wB wB := Ext.refl _
                have SKP := hid (fun (W : World) (hW : Ext wB W) => show W.cell? ⟨gx, 0, none⟩ = some (.int .i64 x0) ∧ W.cell? ⟨gx, 1, none⟩ = some (.int .i64 x1) ∧ W.cell? ⟨gx, 2, none⟩ = some (.int .i64 x2) from ⟨by rw [(Ext.cells (EB0.trans hW)).1 _ _ hgo]; exact HXB.out.1, by rw [(Ext.cells (EB0.trans hW)).1 _ _ hgo]; exact HXB.out.2.1, by rw [(Ext.cells (EB0.trans hW)).1 _ _ hgo]; exact HXB.out.2.2⟩)
                have HNX := hid (show srtZ z (k + 1) = insZ z3 m x0 x1 x2 by rw [HNX0.out, HINS.out])
                go_wp2_with (fail)
                have HT := hid (show IntRow .i64 3 wB (.slice (some ⟨g4, 0, none⟩) m c4) m (z3.take (m * 3)) from take3 (HRo.out.ext EB0) hmk)
                have HD := hid (show IntRow .i64 3 wB (.slice (some ⟨g4, m * 3, none⟩) (k - m) (c4 - m)) (k - m) (z3.drop (m * 3)) from by have := drop3 (HRo.out.ext EB0) hmk; simpa using this)
                refine wp_region_noPanic ?_
                refine wp_region_held_drew (S := (fun W => W.cell? ⟨gx, 0, none⟩ = some (.int .i64 x0) ∧ W.cell? ⟨gx, 1, none⟩ = some (.int .i64 x1) ∧ W.cell? ⟨gx, 2, none⟩ = some (.int .i64 x2))) (by kernel_rfl) ?_ (fun hHeld => ?_)
                · first | exact SKP.out _ (EB.drew) | (dsimp only; exact SKP.out _ (EB.drew))
                have ED := EB.drew
                generalize wB.drew = wd at *
                refine wpAnyH_take (i := 1) (oi := { dst := some 30, op := _, type := _, pos := _, after := _, guard := _ }) (v := ?_) rfl (by kernel_rfl) (by kernel_rfl) (by kernel_rfl) (fun _ _ _ h => h) (Or.inl ⟨by rfl, ?_⟩) (by assumption) ?_
                rotate_left
                · (intro w hSw; (try dsimp only at hSw); go_simp) <;> (first | done | with_reducible rfl | rfl)
                try simp only [Act.put, List.setIfInBounds_toArray, List.set_cons_zero, List.set_cons_succ]
                refine wpAnyH_take (i := 2) (oi := { dst := some 31, op := _, type := _, pos := _, after := _, guard := _ }) (v := ?_) rfl (by kernel_rfl) (by kernel_rfl) (by kernel_rfl) (fun _ _ _ h => h) (Or.inl ⟨by rfl, ?_⟩) (by assumption) ?_
                rotate_left
                · (intro w hSw; (try dsimp only at hSw); go_simp) <;> (first | done | with_reducible rfl | rfl)
                try simp only [Act.put, List.setIfInBounds_toArray, List.set_cons_zero, List.set_cons_succ]
                refine wpAnyH_take (i := 3) (oi := { dst := some 32, op := _, type := _, pos := _, after := _, guard := _ }) (v := ?_) rfl (by kernel_rfl) (by kernel_rfl) (by kernel_rfl) (fun _ _ _ h => h) (Or.inl ⟨by rfl, ?_⟩) (by assumption) ?_
                rotate_left
                · (intro w hSw; (try dsimp only at hSw); go_simp) <;> (first | done | with_reducible rfl | rfl)
                try simp only [Act.put, List.setIfInBounds_toArray, List.set_cons_zero, List.set_cons_succ]
                refine wpAnyH_take (i := 5) (oi := { dst := some 34, op := _, type := _, pos := _, after := _, guard := _ }) (v := ?_) rfl (by kernel_rfl) (by kernel_rfl) (by kernel_rfl) (fun _ _ _ h => h) (Or.inl ⟨by rfl, ?_⟩) (by assumption) ?_
                rotate_left
                · (intro w hSw; (try dsimp only at hSw); go_simp) <;> (first | done | with_reducible rfl | rfl)
                try simp only [Act.put, List.setIfInBounds_toArray, List.set_cons_zero, List.set_cons_succ]
                refine wpAnyH_take (i := 8) (oi := { dst := some 37, op := _, type := _, pos := _, after := _, guard := _ }) (v := ?_) rfl (by kernel_rfl) (by kernel_rfl) (by kernel_rfl) (fun _ _ _ h => h) (Or.inl ⟨by rfl, ?_⟩) (by assumption) ?_
                rotate_left
                · (intro w hSw; (try dsimp only at hSw); go_simp) <;> (first | done | with_reducible rfl | rfl)
                try simp only [Act.put, List.setIfInBounds_toArray, List.set_cons_zero, List.set_cons_succ]
                refine wpAnyH_take (i := 9) (oi := { dst := some 38, op := _, type := _, pos := _, after := _, guard := _ }) (v := ?_) rfl (by kernel_rfl) (by kernel_rfl) (by kernel_rfl) (fun _ _ _ h => h) (Or.inl ⟨by rfl, ?_⟩) (by assumption) ?_
                rotate_left
                · (intro w hSw; (try dsimp only at hSw); go_simp) <;> (first | done | with_reducible rfl | rfl)
                try simp only [Act.put, List.setIfInBounds_toArray, List.set_cons_zero, List.set_cons_succ]
                refine wpAnyH_take (i := 10) (oi := { dst := some 39, op := _, type := _, pos := _, after := _, guard := _ }) (v := ?_) rfl (by kernel_rfl) (by kernel_rfl) (by kernel_rfl) (fun _ _ _ h => h) (Or.inl ⟨by rfl, ?_⟩) (by assumption) ?_
                rotate_left
                · (intro w hSw; (try dsimp only at hSw); go_simp) <;> (first | done | with_reducible rfl | rfl)
                try simp only [Act.put, List.setIfInBounds_toArray, List.set_cons_zero, List.set_cons_succ]
                refine wpAnyH_ready (rs := [0, 6]) (by kernel_rfl) (by simp) ?_
                refine AllReadyH.cons (o := { dst := some 29, op := _, type := _, pos := _, after := _, guard := _ }) rfl (fun K hK => ?_) (AllReadyH.cons (o := { dst := some 35, op := _, type := _, pos := _, after := _, guard := _ }) rfl (fun K hK => ?_) AllReadyH.nil)
                · go_simp
                  have E1 : Ext wB (wd.alloc (.cells #[] 42)) := Ext.alloc ED _
                  have R1 := row_mono (row_empty3 wd 42) (show wB.heap.size ≤ wd.heap.size from ED.size)
                  obtain ⟨g29, hg29⟩ : ∃ q, q = wd.heap.size := ⟨_, rfl⟩
                  have hgl : wB.heap.size ≤ g29 := by rw [hg29]; exact ED.size
                  have hlt29 : g29 < (wd.alloc (.cells #[] 42)).heap.size := by rw [hg29]; simp
                  rw [← hg29] at R1 ⊢
                  clear hg29
                  obtain ⟨wk1, hw1⟩ : ∃ W, W = wd.alloc (.cells #[] 42) := ⟨_, rfl⟩
                  rw [← hw1] at E1 R1 hlt29 ⊢
                  clear hw1
                  refine hK.out _ _ (by first | exact SKP.out _ E1 | (dsimp only; exact SKP.out _ E1)) (fun hHeld => ?_)
                  clear hK K
                  try simp only [Act.put, List.setIfInBounds_toArray, List.set_cons_zero, List.set_cons_succ]
                  refine wpAnyH_ready (rs := [4, 6]) (by kernel_rfl) (by simp) ?_
                  refine AllReadyH.cons (o := { dst := some 33, op := _, type := _, pos := _, after := _, guard := _ }) rfl (fun K hK => ?_) (AllReadyH.cons (o := { dst := some 35, op := _, type := _, pos := _, after := _, guard := _ }) rfl (fun K hK => ?_) AllReadyH.nil)
                  · refine step_src3 (by rfl) (.tmp 29) (.tmp 32) 23 (by rfl) wB.heap.size 42 i0 _ Tryd.underlying23 hi hz0 hz1 hz2 rfl _ 0 [] (by rfl) R1 _ m (z3.take (m * 3)) (by rfl) (HT.out.ext E1) (by omega) E1.size ?_
                    intro v2 wk2 R2 G2
                    have E2 : Ext wB wk2 := Ext.of_grownAt E1 G2 (fun q hq => (R1.lt q hq).1)
                    refine hK.out _ _ (by first | exact SKP.out _ E2 | (dsimp only; exact SKP.out _ E2)) (fun hHeld => ?_)
                    clear hK K
                    try simp only [Act.put, List.setIfInBounds_toArray, List.set_cons_zero, List.set_cons_succ]
                    refine wpAnyH_ready (rs := [6]) (by kernel_rfl) (by simp) ?_
                    refine AllReadyH.cons (o := { dst := some 35, op := _, type := _, pos := _, after := _, guard := _ }) rfl (fun K hK => ?_) AllReadyH.nil
                    go_simp
                    have E3 : Ext wB (wk2.alloc (.cells #[.int .i64 x0, .int .i64 x1, .int .i64 x2] 42)) := Ext.alloc E2 _
                    have L3 := lit3_row wk2 x0 x1 x2 42 hx0 hx1 hx2
                    have R3 := row_ext R2 ((Ext.refl wk2).alloc (.cells #[.int .i64 x0, .int .i64 x1, .int .i64 x2] 42))
                    obtain ⟨g35, hg35⟩ : ∃ q, q = wk2.heap.size := ⟨_, rfl⟩
                    rw [← hg35] at L3 ⊢
                    clear hg35
                    obtain ⟨wk3, hw3⟩ : ∃ W, W = wk2.alloc (.cells #[.int .i64 x0, .int .i64 x1, .int .i64 x2] 42) := ⟨_, rfl⟩
                    rw [← hw3] at E3 R3 L3 ⊢
                    clear hw3
                    refine hK.out _ _ (by first | exact SKP.out _ E3 | (dsimp only; exact SKP.out _ E3)) (fun hHeld => ?_)
                    clear hK K
                    try simp only [Act.put, List.setIfInBounds_toArray, List.set_cons_zero, List.set_cons_succ]
                    refine wpAnyH_ready (rs := [7]) (by kernel_rfl) (by simp) ?_
                    refine AllReadyH.cons (o := { dst := some 36, op := _, type := _, pos := _, after := _, guard := _ }) rfl (fun K hK => ?_) AllReadyH.nil
                    refine step_src3 (by rfl) (.tmp 33) (.tmp 35) 23 (by rfl) wB.heap.size 42 i0 _ Tryd.underlying23 hi hz0 hz1 hz2 rfl _ (0 + m) _ (by rfl) R3 _ 1 [x0, x1, x2] (by rfl) L3 (by omega) E3.size ?_
                    intro v4 wk4 R4 G4
                    have E4 : Ext wB wk4 := Ext.of_grownAt E3 G4 (fun q hq => (R3.lt q hq).1)
                    refine hK.out _ _ (by first | exact SKP.out _ E4 | (dsimp only; exact SKP.out _ E4)) (fun hHeld => ?_)
                    clear hK K
                    try simp only [Act.put, List.setIfInBounds_toArray, List.set_cons_zero, List.set_cons_succ]
                    refine wpAnyH_ready (rs := [11]) (by kernel_rfl) (by simp) ?_
                    refine AllReadyH.cons (o := { dst := some 40, op := _, type := _, pos := _, after := _, guard := _ }) rfl (fun K hK => ?_) AllReadyH.nil
                    refine step_src3 (by rfl) (.tmp 36) (.tmp 39) 23 (by rfl) wB.heap.size 42 i0 _ Tryd.underlying23 hi hz0 hz1 hz2 rfl _ (0 + m + 1) _ (by rfl) R4 _ (k - m) (z3.drop (m * 3)) (by rfl) (HD.out.ext E4) (by omega) E4.size ?_
                    intro v5 wk5 R5 G5
                    have E5 : Ext wB wk5 := Ext.of_grownAt E4 G5 (fun q hq => (R4.lt q hq).1)
                    refine hK.out _ _ (by first | exact SKP.out _ E5 | (dsimp only; exact SKP.out _ E5)) (fun hHeld => ?_)
                    clear hK K
                    try simp only [Act.put, List.setIfInBounds_toArray, List.set_cons_zero, List.set_cons_succ]
                    refine wpAnyH_take (i := 12) (oi := { dst := some 4, op := _, type := _, pos := _, after := _, guard := _ }) (v := ?_) rfl (by kernel_rfl) (by kernel_rfl) (by kernel_rfl) (fun _ _ _ h => h) (Or.inl ⟨by rfl, ?_⟩) (by assumption) ?_
                    rotate_left
                    · (intro w hSw; (try dsimp only at hSw); go_simp) <;> (first | done | with_reducible rfl | rfl)
                    try simp only [Act.put, List.setIfInBounds_toArray, List.set_cons_zero, List.set_cons_succ]
                    refine wpAnyH_done (by kernel_rfl) ?_ _
                    refine NoPanic.normal ?_
                    go_wp2_with (fail)
                    go_roundw
                    case rel =>
                      refine ⟨k + 1, by omega, by first | go_num | rfl, ?_, EW.trans E5⟩
                      rw [HNX.out, show (insZ z3 m x0 x1 x2).map (Value.int .i64) = [] ++ (z3.take (m * 3)).map (Value.int .i64) ++ [x0, x1, x2].map (Value.int .i64) ++ (z3.drop (m * 3)).map (Value.int .i64) by simp [insZ]]
                      have eK : 0 + m + 1 + (k - m) = k + 1 := by omega
                      rw [eK] at R5
                      exact row_mono R5 EW.size
                    case measure => simp [intOf]; omega
                  · go_simp
                    have E6 : Ext wB (wk1.alloc (.cells #[.int .i64 x0, .int .i64 x1, .int .i64 x2] 42)) := Ext.alloc E1 _
                    have L6 := lit3_row wk1 x0 x1 x2 42 hx0 hx1 hx2
                    have R6 := row_ext R1 ((Ext.refl wk1).alloc (.cells #[.int .i64 x0, .int .i64 x1, .int .i64 x2] 42))
                    obtain ⟨g35, hg35⟩ : ∃ q, q = wk1.heap.size := ⟨_, rfl⟩
                    have hne : g29 ≠ g35 := by rw [hg35]; omega
                    rw [← hg35] at L6 ⊢
                    clear hg35
                    obtain ⟨wk6, hw6⟩ : ∃ W, W = wk1.alloc (.cells #[.int .i64 x0, .int .i64 x1, .int .i64 x2] 42) := ⟨_, rfl⟩
                    rw [← hw6] at E6 R6 L6 ⊢
                    clear hw6
                    refine hK.out _ _ (by first | exact SKP.out _ E6 | (dsimp only; exact SKP.out _ E6)) (fun hHeld => ?_)
                    clear hK K
                    try simp only [Act.put, List.setIfInBounds_toArray, List.set_cons_zero, List.set_cons_succ]
                    refine wpAnyH_ready (rs := [4]) (by kernel_rfl) (by simp) ?_
                    refine AllReadyH.cons (o := { dst := some 33, op := _, type := _, pos := _, after := _, guard := _ }) rfl (fun K hK => ?_) AllReadyH.nil
                    refine step_src3 (by rfl) (.tmp 29) (.tmp 32) 23 (by rfl) wB.heap.size 42 i0 _ Tryd.underlying23 hi hz0 hz1 hz2 rfl _ 0 [] (by rfl) R6 _ m (z3.take (m * 3)) (by rfl) (HT.out.ext E6) (by omega) E6.size ?_
                    intro v7 wk7 R7 G7
                    have E7 : Ext wB wk7 := Ext.of_grownAt E6 G7 (fun q hq => (R6.lt q hq).1)
                    have L7 := introw_far3 L6 G7 (by simp [Value.ownBlock]; omega)
                    refine hK.out _ _ (by first | exact SKP.out _ E7 | (dsimp only; exact SKP.out _ E7)) (fun hHeld => ?_)
                    clear hK K
                    try simp only [Act.put, List.setIfInBounds_toArray, List.set_cons_zero, List.set_cons_succ]
                    refine wpAnyH_ready (rs := [7]) (by kernel_rfl) (by simp) ?_
                    refine AllReadyH.cons (o := { dst := some 36, op := _, type := _, pos := _, after := _, guard := _ }) rfl (fun K hK => ?_) AllReadyH.nil
                    refine step_src3 (by rfl) (.tmp 33) (.tmp 35) 23 (by rfl) wB.heap.size 42 i0 _ Tryd.underlying23 hi hz0 hz1 hz2 rfl _ (0 + m) _ (by rfl) R7 _ 1 [x0, x1, x2] (by rfl) L7 (by omega) E7.size ?_
                    intro v8 wk8 R8 G8
                    have E8 : Ext wB wk8 := Ext.of_grownAt E7 G8 (fun q hq => (R7.lt q hq).1)
                    refine hK.out _ _ (by first | exact SKP.out _ E8 | (dsimp only; exact SKP.out _ E8)) (fun hHeld => ?_)
                    clear hK K
                    try simp only [Act.put, List.setIfInBounds_toArray, List.set_cons_zero, List.set_cons_succ]
                    refine wpAnyH_ready (rs := [11]) (by kernel_rfl) (by simp) ?_
                    refine AllReadyH.cons (o := { dst := some 40, op := _, type := _, pos := _, after := _, guard := _ }) rfl (fun K hK => ?_) AllReadyH.nil
                    refine step_src3 (by rfl) (.tmp 36) (.tmp 39) 23 (by rfl) wB.heap.size 42 i0 _ Tryd.underlying23 hi hz0 hz1 hz2 rfl _ (0 + m + 1) _ (by rfl) R8 _ (k - m) (z3.drop (m * 3)) (by rfl) (HD.out.ext E8) (by omega) E8.size ?_
                    intro v9 wk9 R9 G9
                    have E9 : Ext wB wk9 := Ext.of_grownAt E8 G9 (fun q hq => (R8.lt q hq).1)
                    refine hK.out _ _ (by first | exact SKP.out _ E9 | (dsimp only; exact SKP.out _ E9)) (fun hHeld => ?_)
                    clear hK K
                    try simp only [Act.put, List.setIfInBounds_toArray, List.set_cons_zero, List.set_cons_succ]
                    refine wpAnyH_take (i := 12) (oi := { dst := some 4, op := _, type := _, pos := _, after := _, guard := _ }) (v := ?_) rfl (by kernel_rfl) (by kernel_rfl) (by kernel_rfl) (fun _ _ _ h => h) (Or.inl ⟨by rfl, ?_⟩) (by assumption) ?_
                    rotate_left
                    · (intro w hSw; (try dsimp only at hSw); go_simp) <;> (first | done | with_reducible rfl | rfl)
                    try simp only [Act.put, List.setIfInBounds_toArray, List.set_cons_zero, List.set_cons_succ]
                    refine wpAnyH_done (by kernel_rfl) ?_ _
                    refine NoPanic.normal ?_
                    go_wp2_with (fail)
                    go_roundw
                    case rel =>
                      refine ⟨k + 1, by omega, by first | go_num | rfl, ?_, EW.trans E9⟩
                      rw [HNX.out, show (insZ z3 m x0 x1 x2).map (Value.int .i64) = [] ++ (z3.take (m * 3)).map (Value.int .i64) ++ [x0, x1, x2].map (Value.int .i64) ++ (z3.drop (m * 3)).map (Value.int .i64) by simp [insZ]]
                      have eK : 0 + m + 1 + (k - m) = k + 1 := by omega
                      rw [eK] at R9
                      exact row_mono R9 EW.size
                    case measure => simp [intOf]; omega
                · go_simp
                  have E10 : Ext wB (wd.alloc (.cells #[.int .i64 x0, .int .i64 x1, .int .i64 x2] 42)) := Ext.alloc ED _
                  have L10 := lit3_row wd x0 x1 x2 42 hx0 hx1 hx2
                  obtain ⟨g35, hg35⟩ : ∃ q, q = wd.heap.size := ⟨_, rfl⟩
                  have hlt35 : g35 < (wd.alloc (.cells #[.int .i64 x0, .int .i64 x1, .int .i64 x2] 42)).heap.size := by rw [hg35]; simp
                  rw [← hg35] at L10 ⊢
                  clear hg35
                  obtain ⟨wk10, hw10⟩ : ∃ W, W = wd.alloc (.cells #[.int .i64 x0, .int .i64 x1, .int .i64 x2] 42) := ⟨_, rfl⟩
                  rw [← hw10] at E10 L10 hlt35 ⊢
                  clear hw10
                  refine hK.out _ _ (by first | exact SKP.out _ E10 | (dsimp only; exact SKP.out _ E10)) (fun hHeld => ?_)
                  clear hK K
                  try simp only [Act.put, List.setIfInBounds_toArray, List.set_cons_zero, List.set_cons_succ]
                  refine wpAnyH_ready (rs := [0]) (by kernel_rfl) (by simp) ?_
                  refine AllReadyH.cons (o := { dst := some 29, op := _, type := _, pos := _, after := _, guard := _ }) rfl (fun K hK => ?_) AllReadyH.nil
                  go_simp
                  have E11 : Ext wB (wk10.alloc (.cells #[] 42)) := Ext.alloc E10 _
                  have R11 := row_mono (row_empty3 wk10 42) (show wB.heap.size ≤ wk10.heap.size from E10.size)
                  have L11 := IntRow.ext L10 ((Ext.refl wk10).alloc (.cells #[] 42))
                  obtain ⟨g29, hg29⟩ : ∃ q, q = wk10.heap.size := ⟨_, rfl⟩
                  have hne : g29 ≠ g35 := by rw [hg29]; omega
                  have hgl : wB.heap.size ≤ g29 := by rw [hg29]; exact E10.size
                  rw [← hg29] at R11 ⊢
                  clear hg29
                  obtain ⟨wk11, hw11⟩ : ∃ W, W = wk10.alloc (.cells #[] 42) := ⟨_, rfl⟩
                  rw [← hw11] at E11 R11 L11 ⊢
                  clear hw11
                  refine hK.out _ _ (by first | exact SKP.out _ E11 | (dsimp only; exact SKP.out _ E11)) (fun hHeld => ?_)
                  clear hK K
                  try simp only [Act.put, List.setIfInBounds_toArray, List.set_cons_zero, List.set_cons_succ]
                  refine wpAnyH_ready (rs := [4]) (by kernel_rfl) (by simp) ?_
                  refine AllReadyH.cons (o := { dst := some 33, op := _, type := _, pos := _, after := _, guard := _ }) rfl (fun K hK => ?_) AllReadyH.nil
                  refine step_src3 (by rfl) (.tmp 29) (.tmp 32) 23 (by rfl) wB.heap.size 42 i0 _ Tryd.underlying23 hi hz0 hz1 hz2 rfl _ 0 [] (by rfl) R11 _ m (z3.take (m * 3)) (by rfl) (HT.out.ext E11) (by omega) E11.size ?_
                  intro v12 wk12 R12 G12
                  have E12 : Ext wB wk12 := Ext.of_grownAt E11 G12 (fun q hq => (R11.lt q hq).1)
                  have L12 := introw_far3 L11 G12 (by simp [Value.ownBlock]; omega)
                  refine hK.out _ _ (by first | exact SKP.out _ E12 | (dsimp only; exact SKP.out _ E12)) (fun hHeld => ?_)
                  clear hK K
                  try simp only [Act.put, List.setIfInBounds_toArray, List.set_cons_zero, List.set_cons_succ]
                  refine wpAnyH_ready (rs := [7]) (by kernel_rfl) (by simp) ?_
                  refine AllReadyH.cons (o := { dst := some 36, op := _, type := _, pos := _, after := _, guard := _ }) rfl (fun K hK => ?_) AllReadyH.nil
                  refine step_src3 (by rfl) (.tmp 33) (.tmp 35) 23 (by rfl) wB.heap.size 42 i0 _ Tryd.underlying23 hi hz0 hz1 hz2 rfl _ (0 + m) _ (by rfl) R12 _ 1 [x0, x1, x2] (by rfl) L12 (by omega) E12.size ?_
                  intro v13 wk13 R13 G13
                  have E13 : Ext wB wk13 := Ext.of_grownAt E12 G13 (fun q hq => (R12.lt q hq).1)
                  refine hK.out _ _ (by first | exact SKP.out _ E13 | (dsimp only; exact SKP.out _ E13)) (fun hHeld => ?_)
                  clear hK K
                  try simp only [Act.put, List.setIfInBounds_toArray, List.set_cons_zero, List.set_cons_succ]
                  refine wpAnyH_ready (rs := [11]) (by kernel_rfl) (by simp) ?_
                  refine AllReadyH.cons (o := { dst := some 40, op := _, type := _, pos := _, after := _, guard := _ }) rfl (fun K hK => ?_) AllReadyH.nil
                  refine step_src3 (by rfl) (.tmp 36) (.tmp 39) 23 (by rfl) wB.heap.size 42 i0 _ Tryd.underlying23 hi hz0 hz1 hz2 rfl _ (0 + m + 1) _ (by rfl) R13 _ (k - m) (z3.drop (m * 3)) (by rfl) (HD.out.ext E13) (by omega) E13.size ?_
                  intro v14 wk14 R14 G14
                  have E14 : Ext wB wk14 := Ext.of_grownAt E13 G14 (fun q hq => (R13.lt q hq).1)
                  refine hK.out _ _ (by first | exact SKP.out _ E14 | (dsimp only; exact SKP.out _ E14)) (fun hHeld => ?_)
                  clear hK K
                  try simp only [Act.put, List.setIfInBounds_toArray, List.set_cons_zero, List.set_cons_succ]
                  refine wpAnyH_take (i := 12) (oi := { dst := some 4, op := _, type := _, pos := _, after := _, guard := _ }) (v := ?_) rfl (by kernel_rfl) (by kernel_rfl) (by kernel_rfl) (fun _ _ _ h => h) (Or.inl ⟨by rfl, ?_⟩) (by assumption) ?_
                  rotate_left
                  · (intro w hSw; (try dsimp only at hSw); go_simp) <;> (first | done | with_reducible rfl | rfl)
                  try simp only [Act.put, List.setIfInBounds_toArray, List.set_cons_zero, List.set_cons_succ]
                  refine wpAnyH_done (by kernel_rfl) ?_ _
                  refine NoPanic.normal ?_
                  go_wp2_with (fail)
                  go_roundw
                  case rel =>
                    refine ⟨k + 1, by omega, by first | go_num | rfl, ?_, EW.trans E14⟩
                    rw [HNX.out, show (insZ z3 m x0 x1 x2).map (Value.int .i64) = [] ++ (z3.take (m * 3)).map (Value.int .i64) ++ [x0, x1, x2].map (Value.int .i64) ++ (z3.drop (m * 3)).map (Value.int .i64) by simp [insZ]]
                    have eK : 0 + m + 1 + (k - m) = k + 1 := by omega
                    rw [eK] at R14
                    exact row_mono R14 EW.size
                  case measure => simp [intOf]; omega
          · have hk2 : decide (0 < m) = false := decide_eq_false hm0
            have hkz : (m : Int) ≤ 0 := by omega
            have HINS := hid (show insK z3 x0 x1 k = m by rw [HIM.out, show m = 0 by omega]; rfl)
            go_wp2_with (fail)
            go_quiet (fail)
            rename_i nq
            have EB0 : Ext wo (wr.drewN nq) := hEr.drewN _
            obtain ⟨wB, hwB⟩ : ∃ W, W = wr.drewN nq := ⟨_, rfl⟩
            rw [← hwB] at EB0 ⊢
            clear hwB hEr t0 t1 t2
            by_cases hcm4 : c4 = m
            · obtain rfl : m = c4 := hcm4.symm
              have EW : Ext w wB := hEo.trans EB0
              have EB : Ext wB wB := Ext.refl _
              have SKP := hid (fun (W : World) (hW : Ext wB W) => show W.cell? ⟨gx, 0, none⟩ = some (.int .i64 x0) ∧ W.cell? ⟨gx, 1, none⟩ = some (.int .i64 x1) ∧ W.cell? ⟨gx, 2, none⟩ = some (.int .i64 x2) from ⟨by rw [(Ext.cells (EB0.trans hW)).1 _ _ hgo]; exact HXB.out.1, by rw [(Ext.cells (EB0.trans hW)).1 _ _ hgo]; exact HXB.out.2.1, by rw [(Ext.cells (EB0.trans hW)).1 _ _ hgo]; exact HXB.out.2.2⟩)
              have HNX := hid (show srtZ z (k + 1) = insZ z3 m x0 x1 x2 by rw [HNX0.out, HINS.out])
              go_wp2_with (fail)
              have HT := hid (show IntRow .i64 3 wB (.slice (some ⟨g4, 0, none⟩) m m) m (z3.take (m * 3)) from take3 (HRo.out.ext EB0) hmk)
              have HD := hid (show IntRow .i64 3 wB (.slice (some ⟨g4, 0, none⟩) 0 0) (k - m) (z3.drop (m * 3)) from by rw [show k - m = 0 by omega, show z3.drop (m * 3) = [] from List.drop_eq_nil_of_le (by omega)]; exact none3 _ _ _ (Nat.zero_le _))
              refine wp_region_noPanic ?_
              refine wp_region_held_drew (S := (fun W => W.cell? ⟨gx, 0, none⟩ = some (.int .i64 x0) ∧ W.cell? ⟨gx, 1, none⟩ = some (.int .i64 x1) ∧ W.cell? ⟨gx, 2, none⟩ = some (.int .i64 x2))) (by kernel_rfl) ?_ (fun hHeld => ?_)
              · first | exact SKP.out _ (EB.drew) | (dsimp only; exact SKP.out _ (EB.drew))
              have ED := EB.drew
              generalize wB.drew = wd at *
              refine wpAnyH_take (i := 1) (oi := { dst := some 30, op := _, type := _, pos := _, after := _, guard := _ }) (v := ?_) rfl (by kernel_rfl) (by kernel_rfl) (by kernel_rfl) (fun _ _ _ h => h) (Or.inl ⟨by rfl, ?_⟩) (by assumption) ?_
              rotate_left
              · (intro w hSw; (try dsimp only at hSw); go_simp) <;> (first | done | with_reducible rfl | rfl)
              try simp only [Act.put, List.setIfInBounds_toArray, List.set_cons_zero, List.set_cons_succ]
              refine wpAnyH_take (i := 2) (oi := { dst := some 31, op := _, type := _, pos := _, after := _, guard := _ }) (v := ?_) rfl (by kernel_rfl) (by kernel_rfl) (by kernel_rfl) (fun _ _ _ h => h) (Or.inl ⟨by rfl, ?_⟩) (by assumption) ?_
              rotate_left
              · (intro w hSw; (try dsimp only at hSw); go_simp) <;> (first | done | with_reducible rfl | rfl)
              try simp only [Act.put, List.setIfInBounds_toArray, List.set_cons_zero, List.set_cons_succ]
              refine wpAnyH_take (i := 3) (oi := { dst := some 32, op := _, type := _, pos := _, after := _, guard := _ }) (v := ?_) rfl (by kernel_rfl) (by kernel_rfl) (by kernel_rfl) (fun _ _ _ h => h) (Or.inl ⟨by rfl, ?_⟩) (by assumption) ?_
              rotate_left
              · (intro w hSw; (try dsimp only at hSw); go_simp) <;> (first | done | with_reducible rfl | rfl)
              try simp only [Act.put, List.setIfInBounds_toArray, List.set_cons_zero, List.set_cons_succ]
              refine wpAnyH_take (i := 5) (oi := { dst := some 34, op := _, type := _, pos := _, after := _, guard := _ }) (v := ?_) rfl (by kernel_rfl) (by kernel_rfl) (by kernel_rfl) (fun _ _ _ h => h) (Or.inl ⟨by rfl, ?_⟩) (by assumption) ?_
              rotate_left
              · (intro w hSw; (try dsimp only at hSw); go_simp) <;> (first | done | with_reducible rfl | rfl)
              try simp only [Act.put, List.setIfInBounds_toArray, List.set_cons_zero, List.set_cons_succ]
              refine wpAnyH_take (i := 8) (oi := { dst := some 37, op := _, type := _, pos := _, after := _, guard := _ }) (v := ?_) rfl (by kernel_rfl) (by kernel_rfl) (by kernel_rfl) (fun _ _ _ h => h) (Or.inl ⟨by rfl, ?_⟩) (by assumption) ?_
              rotate_left
              · (intro w hSw; (try dsimp only at hSw); go_simp) <;> (first | done | with_reducible rfl | rfl)
              try simp only [Act.put, List.setIfInBounds_toArray, List.set_cons_zero, List.set_cons_succ]
              refine wpAnyH_take (i := 9) (oi := { dst := some 38, op := _, type := _, pos := _, after := _, guard := _ }) (v := ?_) rfl (by kernel_rfl) (by kernel_rfl) (by kernel_rfl) (fun _ _ _ h => h) (Or.inl ⟨by rfl, ?_⟩) (by assumption) ?_
              rotate_left
              · (intro w hSw; (try dsimp only at hSw); go_simp) <;> (first | done | with_reducible rfl | rfl)
              try simp only [Act.put, List.setIfInBounds_toArray, List.set_cons_zero, List.set_cons_succ]
              refine wpAnyH_take (i := 10) (oi := { dst := some 39, op := _, type := _, pos := _, after := _, guard := _ }) (v := ?_) rfl (by kernel_rfl) (by kernel_rfl) (by kernel_rfl) (fun _ _ _ h => h) (Or.inl ⟨by rfl, ?_⟩) (by assumption) ?_
              rotate_left
              · (intro w hSw; (try dsimp only at hSw); go_simp) <;> (first | done | with_reducible rfl | rfl)
              try simp only [Act.put, List.setIfInBounds_toArray, List.set_cons_zero, List.set_cons_succ]
              refine wpAnyH_ready (rs := [0, 6]) (by kernel_rfl) (by simp) ?_
              refine AllReadyH.cons (o := { dst := some 29, op := _, type := _, pos := _, after := _, guard := _ }) rfl (fun K hK => ?_) (AllReadyH.cons (o := { dst := some 35, op := _, type := _, pos := _, after := _, guard := _ }) rfl (fun K hK => ?_) AllReadyH.nil)
              · go_simp
                have E1 : Ext wB (wd.alloc (.cells #[] 42)) := Ext.alloc ED _
                have R1 := row_mono (row_empty3 wd 42) (show wB.heap.size ≤ wd.heap.size from ED.size)
                obtain ⟨g29, hg29⟩ : ∃ q, q = wd.heap.size := ⟨_, rfl⟩
                have hgl : wB.heap.size ≤ g29 := by rw [hg29]; exact ED.size
                have hlt29 : g29 < (wd.alloc (.cells #[] 42)).heap.size := by rw [hg29]; simp
                rw [← hg29] at R1 ⊢
                clear hg29
                obtain ⟨wk1, hw1⟩ : ∃ W, W = wd.alloc (.cells #[] 42) := ⟨_, rfl⟩
                rw [← hw1] at E1 R1 hlt29 ⊢
                clear hw1
                refine hK.out _ _ (by first | exact SKP.out _ E1 | (dsimp only; exact SKP.out _ E1)) (fun hHeld => ?_)
                clear hK K
                try simp only [Act.put, List.setIfInBounds_toArray, List.set_cons_zero, List.set_cons_succ]
                refine wpAnyH_ready (rs := [4, 6]) (by kernel_rfl) (by simp) ?_
                refine AllReadyH.cons (o := { dst := some 33, op := _, type := _, pos := _, after := _, guard := _ }) rfl (fun K hK => ?_) (AllReadyH.cons (o := { dst := some 35, op := _, type := _, pos := _, after := _, guard := _ }) rfl (fun K hK => ?_) AllReadyH.nil)
                · refine step_src3 (by rfl) (.tmp 29) (.tmp 32) 23 (by rfl) wB.heap.size 42 i0 _ Tryd.underlying23 hi hz0 hz1 hz2 rfl _ 0 [] (by rfl) R1 _ m (z3.take (m * 3)) (by rfl) (HT.out.ext E1) (by omega) E1.size ?_
                  intro v2 wk2 R2 G2
                  have E2 : Ext wB wk2 := Ext.of_grownAt E1 G2 (fun q hq => (R1.lt q hq).1)
                  refine hK.out _ _ (by first | exact SKP.out _ E2 | (dsimp only; exact SKP.out _ E2)) (fun hHeld => ?_)
                  clear hK K
                  try simp only [Act.put, List.setIfInBounds_toArray, List.set_cons_zero, List.set_cons_succ]
                  refine wpAnyH_ready (rs := [6]) (by kernel_rfl) (by simp) ?_
                  refine AllReadyH.cons (o := { dst := some 35, op := _, type := _, pos := _, after := _, guard := _ }) rfl (fun K hK => ?_) AllReadyH.nil
                  go_simp
                  have E3 : Ext wB (wk2.alloc (.cells #[.int .i64 x0, .int .i64 x1, .int .i64 x2] 42)) := Ext.alloc E2 _
                  have L3 := lit3_row wk2 x0 x1 x2 42 hx0 hx1 hx2
                  have R3 := row_ext R2 ((Ext.refl wk2).alloc (.cells #[.int .i64 x0, .int .i64 x1, .int .i64 x2] 42))
                  obtain ⟨g35, hg35⟩ : ∃ q, q = wk2.heap.size := ⟨_, rfl⟩
                  rw [← hg35] at L3 ⊢
                  clear hg35
                  obtain ⟨wk3, hw3⟩ : ∃ W, W = wk2.alloc (.cells #[.int .i64 x0, .int .i64 x1, .int .i64 x2] 42) := ⟨_, rfl⟩
                  rw [← hw3] at E3 R3 L3 ⊢
                  clear hw3
                  refine hK.out _ _ (by first | exact SKP.out _ E3 | (dsimp only; exact SKP.out _ E3)) (fun hHeld => ?_)
                  clear hK K
                  try simp only [Act.put, List.setIfInBounds_toArray, List.set_cons_zero, List.set_cons_succ]
                  refine wpAnyH_ready (rs := [7]) (by kernel_rfl) (by simp) ?_
                  refine AllReadyH.cons (o := { dst := some 36, op := _, type := _, pos := _, after := _, guard := _ }) rfl (fun K hK => ?_) AllReadyH.nil
                  refine step_src3 (by rfl) (.tmp 33) (.tmp 35) 23 (by rfl) wB.heap.size 42 i0 _ Tryd.underlying23 hi hz0 hz1 hz2 rfl _ (0 + m) _ (by rfl) R3 _ 1 [x0, x1, x2] (by rfl) L3 (by omega) E3.size ?_
                  intro v4 wk4 R4 G4
                  have E4 : Ext wB wk4 := Ext.of_grownAt E3 G4 (fun q hq => (R3.lt q hq).1)
                  refine hK.out _ _ (by first | exact SKP.out _ E4 | (dsimp only; exact SKP.out _ E4)) (fun hHeld => ?_)
                  clear hK K
                  try simp only [Act.put, List.setIfInBounds_toArray, List.set_cons_zero, List.set_cons_succ]
                  refine wpAnyH_ready (rs := [11]) (by kernel_rfl) (by simp) ?_
                  refine AllReadyH.cons (o := { dst := some 40, op := _, type := _, pos := _, after := _, guard := _ }) rfl (fun K hK => ?_) AllReadyH.nil
                  refine step_src3 (by rfl) (.tmp 36) (.tmp 39) 23 (by rfl) wB.heap.size 42 i0 _ Tryd.underlying23 hi hz0 hz1 hz2 rfl _ (0 + m + 1) _ (by rfl) R4 _ (k - m) (z3.drop (m * 3)) (by rfl) (HD.out.ext E4) (by omega) E4.size ?_
                  intro v5 wk5 R5 G5
                  have E5 : Ext wB wk5 := Ext.of_grownAt E4 G5 (fun q hq => (R4.lt q hq).1)
                  refine hK.out _ _ (by first | exact SKP.out _ E5 | (dsimp only; exact SKP.out _ E5)) (fun hHeld => ?_)
                  clear hK K
                  try simp only [Act.put, List.setIfInBounds_toArray, List.set_cons_zero, List.set_cons_succ]
                  refine wpAnyH_take (i := 12) (oi := { dst := some 4, op := _, type := _, pos := _, after := _, guard := _ }) (v := ?_) rfl (by kernel_rfl) (by kernel_rfl) (by kernel_rfl) (fun _ _ _ h => h) (Or.inl ⟨by rfl, ?_⟩) (by assumption) ?_
                  rotate_left
                  · (intro w hSw; (try dsimp only at hSw); go_simp) <;> (first | done | with_reducible rfl | rfl)
                  try simp only [Act.put, List.setIfInBounds_toArray, List.set_cons_zero, List.set_cons_succ]
                  refine wpAnyH_done (by kernel_rfl) ?_ _
                  refine NoPanic.normal ?_
                  go_wp2_with (fail)
                  go_roundw
                  case rel =>
                    refine ⟨k + 1, by omega, by first | go_num | rfl, ?_, EW.trans E5⟩
                    rw [HNX.out, show (insZ z3 m x0 x1 x2).map (Value.int .i64) = [] ++ (z3.take (m * 3)).map (Value.int .i64) ++ [x0, x1, x2].map (Value.int .i64) ++ (z3.drop (m * 3)).map (Value.int .i64) by simp [insZ]]
                    have eK : 0 + m + 1 + (k - m) = k + 1 := by omega
                    rw [eK] at R5
                    exact row_mono R5 EW.size
                  case measure => simp [intOf]; omega
                · go_simp
                  have E6 : Ext wB (wk1.alloc (.cells #[.int .i64 x0, .int .i64 x1, .int .i64 x2] 42)) := Ext.alloc E1 _
                  have L6 := lit3_row wk1 x0 x1 x2 42 hx0 hx1 hx2
                  have R6 := row_ext R1 ((Ext.refl wk1).alloc (.cells #[.int .i64 x0, .int .i64 x1, .int .i64 x2] 42))
                  obtain ⟨g35, hg35⟩ : ∃ q, q = wk1.heap.size := ⟨_, rfl⟩
                  have hne : g29 ≠ g35 := by rw [hg35]; omega
                  rw [← hg35] at L6 ⊢
                  clear hg35
                  obtain ⟨wk6, hw6⟩ : ∃ W, W = wk1.alloc (.cells #[.int .i64 x0, .int .i64 x1, .int .i64 x2] 42) := ⟨_, rfl⟩
                  rw [← hw6] at E6 R6 L6 ⊢
                  clear hw6
                  refine hK.out _ _ (by first | exact SKP.out _ E6 | (dsimp only; exact SKP.out _ E6)) (fun hHeld => ?_)
                  clear hK K
                  try simp only [Act.put, List.setIfInBounds_toArray, List.set_cons_zero, List.set_cons_succ]
                  refine wpAnyH_ready (rs := [4]) (by kernel_rfl) (by simp) ?_
                  refine AllReadyH.cons (o := { dst := some 33, op := _, type := _, pos := _, after := _, guard := _ }) rfl (fun K hK => ?_) AllReadyH.nil
                  refine step_src3 (by rfl) (.tmp 29) (.tmp 32) 23 (by rfl) wB.heap.size 42 i0 _ Tryd.underlying23 hi hz0 hz1 hz2 rfl _ 0 [] (by rfl) R6 _ m (z3.take (m * 3)) (by rfl) (HT.out.ext E6) (by omega) E6.size ?_
                  intro v7 wk7 R7 G7
                  have E7 : Ext wB wk7 := Ext.of_grownAt E6 G7 (fun q hq => (R6.lt q hq).1)
                  have L7 := introw_far3 L6 G7 (by simp [Value.ownBlock]; omega)
                  refine hK.out _ _ (by first | exact SKP.out _ E7 | (dsimp only; exact SKP.out _ E7)) (fun hHeld => ?_)
                  clear hK K
                  try simp only [Act.put, List.setIfInBounds_toArray, List.set_cons_zero, List.set_cons_succ]
                  refine wpAnyH_ready (rs := [7]) (by kernel_rfl) (by simp) ?_
                  refine AllReadyH.cons (o := { dst := some 36, op := _, type := _, pos := _, after := _, guard := _ }) rfl (fun K hK => ?_) AllReadyH.nil
                  refine step_src3 (by rfl) (.tmp 33) (.tmp 35) 23 (by rfl) wB.heap.size 42 i0 _ Tryd.underlying23 hi hz0 hz1 hz2 rfl _ (0 + m) _ (by rfl) R7 _ 1 [x0, x1, x2] (by rfl) L7 (by omega) E7.size ?_
                  intro v8 wk8 R8 G8
                  have E8 : Ext wB wk8 := Ext.of_grownAt E7 G8 (fun q hq => (R7.lt q hq).1)
                  refine hK.out _ _ (by first | exact SKP.out _ E8 | (dsimp only; exact SKP.out _ E8)) (fun hHeld => ?_)
                  clear hK K
                  try simp only [Act.put, List.setIfInBounds_toArray, List.set_cons_zero, List.set_cons_succ]
                  refine wpAnyH_ready (rs := [11]) (by kernel_rfl) (by simp) ?_
                  refine AllReadyH.cons (o := { dst := some 40, op := _, type := _, pos := _, after := _, guard := _ }) rfl (fun K hK => ?_) AllReadyH.nil
                  refine step_src3 (by rfl) (.tmp 36) (.tmp 39) 23 (by rfl) wB.heap.size 42 i0 _ Tryd.underlying23 hi hz0 hz1 hz2 rfl _ (0 + m + 1) _ (by rfl) R8 _ (k - m) (z3.drop (m * 3)) (by rfl) (HD.out.ext E8) (by omega) E8.size ?_
                  intro v9 wk9 R9 G9
                  have E9 : Ext wB wk9 := Ext.of_grownAt E8 G9 (fun q hq => (R8.lt q hq).1)
                  refine hK.out _ _ (by first | exact SKP.out _ E9 | (dsimp only; exact SKP.out _ E9)) (fun hHeld => ?_)
                  clear hK K
                  try simp only [Act.put, List.setIfInBounds_toArray, List.set_cons_zero, List.set_cons_succ]
                  refine wpAnyH_take (i := 12) (oi := { dst := some 4, op := _, type := _, pos := _, after := _, guard := _ }) (v := ?_) rfl (by kernel_rfl) (by kernel_rfl) (by kernel_rfl) (fun _ _ _ h => h) (Or.inl ⟨by rfl, ?_⟩) (by assumption) ?_
                  rotate_left
                  · (intro w hSw; (try dsimp only at hSw); go_simp) <;> (first | done | with_reducible rfl | rfl)
                  try simp only [Act.put, List.setIfInBounds_toArray, List.set_cons_zero, List.set_cons_succ]
                  refine wpAnyH_done (by kernel_rfl) ?_ _
                  refine NoPanic.normal ?_
                  go_wp2_with (fail)
                  go_roundw
                  case rel =>
                    refine ⟨k + 1, by omega, by first | go_num | rfl, ?_, EW.trans E9⟩
                    rw [HNX.out, show (insZ z3 m x0 x1 x2).map (Value.int .i64) = [] ++ (z3.take (m * 3)).map (Value.int .i64) ++ [x0, x1, x2].map (Value.int .i64) ++ (z3.drop (m * 3)).map (Value.int .i64) by simp [insZ]]
                    have eK : 0 + m + 1 + (k - m) = k + 1 := by omega
                    rw [eK] at R9
                    exact row_mono R9 EW.size
                  case measure => simp [intOf]; omega
              · go_simp
                have E10 : Ext wB (wd.alloc (.cells #[.int .i64 x0, .int .i64 x1, .int .i64 x2] 42)) := Ext.alloc ED _
                have L10 := lit3_row wd x0 x1 x2 42 hx0 hx1 hx2
                obtain ⟨g35, hg35⟩ : ∃ q, q = wd.heap.size := ⟨_, rfl⟩
                have hlt35 : g35 < (wd.alloc (.cells #[.int .i64 x0, .int .i64 x1, .int .i64 x2] 42)).heap.size := by rw [hg35]; simp
                rw [← hg35] at L10 ⊢
                clear hg35
                obtain ⟨wk10, hw10⟩ : ∃ W, W = wd.alloc (.cells #[.int .i64 x0, .int .i64 x1, .int .i64 x2] 42) := ⟨_, rfl⟩
                rw [← hw10] at E10 L10 hlt35 ⊢
                clear hw10
                refine hK.out _ _ (by first | exact SKP.out _ E10 | (dsimp only; exact SKP.out _ E10)) (fun hHeld => ?_)
                clear hK K
                try simp only [Act.put, List.setIfInBounds_toArray, List.set_cons_zero, List.set_cons_succ]
                refine wpAnyH_ready (rs := [0]) (by kernel_rfl) (by simp) ?_
                refine AllReadyH.cons (o := { dst := some 29, op := _, type := _, pos := _, after := _, guard := _ }) rfl (fun K hK => ?_) AllReadyH.nil
                go_simp
                have E11 : Ext wB (wk10.alloc (.cells #[] 42)) := Ext.alloc E10 _
                have R11 := row_mono (row_empty3 wk10 42) (show wB.heap.size ≤ wk10.heap.size from E10.size)
                have L11 := IntRow.ext L10 ((Ext.refl wk10).alloc (.cells #[] 42))
                obtain ⟨g29, hg29⟩ : ∃ q, q = wk10.heap.size := ⟨_, rfl⟩
                have hne : g29 ≠ g35 := by rw [hg29]; omega
                have hgl : wB.heap.size ≤ g29 := by rw [hg29]; exact E10.size
                rw [← hg29] at R11 ⊢
                clear hg29
                obtain ⟨wk11, hw11⟩ : ∃ W, W = wk10.alloc (.cells #[] 42) := ⟨_, rfl⟩
                rw [← hw11] at E11 R11 L11 ⊢
                clear hw11
                refine hK.out _ _ (by first | exact SKP.out _ E11 | (dsimp only; exact SKP.out _ E11)) (fun hHeld => ?_)
                clear hK K
                try simp only [Act.put, List.setIfInBounds_toArray, List.set_cons_zero, List.set_cons_succ]
                refine wpAnyH_ready (rs := [4]) (by kernel_rfl) (by simp) ?_
                refine AllReadyH.cons (o := { dst := some 33, op := _, type := _, pos := _, after := _, guard := _ }) rfl (fun K hK => ?_) AllReadyH.nil
                refine step_src3 (by rfl) (.tmp 29) (.tmp 32) 23 (by rfl) wB.heap.size 42 i0 _ Tryd.underlying23 hi hz0 hz1 hz2 rfl _ 0 [] (by rfl) R11 _ m (z3.take (m * 3)) (by rfl) (HT.out.ext E11) (by omega) E11.size ?_
                intro v12 wk12 R12 G12
                have E12 : Ext wB wk12 := Ext.of_grownAt E11 G12 (fun q hq => (R11.lt q hq).1)
                have L12 := introw_far3 L11 G12 (by simp [Value.ownBlock]; omega)
                refine hK.out _ _ (by first | exact SKP.out _ E12 | (dsimp only; exact SKP.out _ E12)) (fun hHeld => ?_)
                clear hK K
                try simp only [Act.put, List.setIfInBounds_toArray, List.set_cons_zero, List.set_cons_succ]
                refine wpAnyH_ready (rs := [7]) (by kernel_rfl) (by simp) ?_
                refine AllReadyH.cons (o := { dst := some 36, op := _, type := _, pos := _, after := _, guard := _ }) rfl (fun K hK => ?_) AllReadyH.nil
                refine step_src3 (by rfl) (.tmp 33) (.tmp 35) 23 (by rfl) wB.heap.size 42 i0 _ Tryd.underlying23 hi hz0 hz1 hz2 rfl _ (0 + m) _ (by rfl) R12 _ 1 [x0, x1, x2] (by rfl) L12 (by omega) E12.size ?_
                intro v13 wk13 R13 G13
                have E13 : Ext wB wk13 := Ext.of_grownAt E12 G13 (fun q hq => (R12.lt q hq).1)
                refine hK.out _ _ (by first | exact SKP.out _ E13 | (dsimp only; exact SKP.out _ E13)) (fun hHeld => ?_)
                clear hK K
                try simp only [Act.put, List.setIfInBounds_toArray, List.set_cons_zero, List.set_cons_succ]
                refine wpAnyH_ready (rs := [11]) (by kernel_rfl) (by simp) ?_
                refine AllReadyH.cons (o := { dst := some 40, op := _, type := _, pos := _, after := _, guard := _ }) rfl (fun K hK => ?_) AllReadyH.nil
                refine step_src3 (by rfl) (.tmp 36) (.tmp 39) 23 (by rfl) wB.heap.size 42 i0 _ Tryd.underlying23 hi hz0 hz1 hz2 rfl _ (0 + m + 1) _ (by rfl) R13 _ (k - m) (z3.drop (m * 3)) (by rfl) (HD.out.ext E13) (by omega) E13.size ?_
                intro v14 wk14 R14 G14
                have E14 : Ext wB wk14 := Ext.of_grownAt E13 G14 (fun q hq => (R13.lt q hq).1)
                refine hK.out _ _ (by first | exact SKP.out _ E14 | (dsimp only; exact SKP.out _ E14)) (fun hHeld => ?_)
                clear hK K
                try simp only [Act.put, List.setIfInBounds_toArray, List.set_cons_zero, List.set_cons_succ]
                refine wpAnyH_take (i := 12) (oi := { dst := some 4, op := _, type := _, pos := _, after := _, guard := _ }) (v := ?_) rfl (by kernel_rfl) (by kernel_rfl) (by kernel_rfl) (fun _ _ _ h => h) (Or.inl ⟨by rfl, ?_⟩) (by assumption) ?_
                rotate_left
                · (intro w hSw; (try dsimp only at hSw); go_simp) <;> (first | done | with_reducible rfl | rfl)
                try simp only [Act.put, List.setIfInBounds_toArray, List.set_cons_zero, List.set_cons_succ]
                refine wpAnyH_done (by kernel_rfl) ?_ _
                refine NoPanic.normal ?_
                go_wp2_with (fail)
                go_roundw
                case rel =>
                  refine ⟨k + 1, by omega, by first | go_num | rfl, ?_, EW.trans E14⟩
                  rw [HNX.out, show (insZ z3 m x0 x1 x2).map (Value.int .i64) = [] ++ (z3.take (m * 3)).map (Value.int .i64) ++ [x0, x1, x2].map (Value.int .i64) ++ (z3.drop (m * 3)).map (Value.int .i64) by simp [insZ]]
                  have eK : 0 + m + 1 + (k - m) = k + 1 := by omega
                  rw [eK] at R14
                  exact row_mono R14 EW.size
                case measure => simp [intOf]; omega
            · have hcmb : (c4 == m) = false := by simpa using hcm4
              have EW : Ext w wB := hEo.trans EB0
              have EB : Ext wB wB := Ext.refl _
              have SKP := hid (fun (W : World) (hW : Ext wB W) => show W.cell? ⟨gx, 0, none⟩ = some (.int .i64 x0) ∧ W.cell? ⟨gx, 1, none⟩ = some (.int .i64 x1) ∧ W.cell? ⟨gx, 2, none⟩ = some (.int .i64 x2) from ⟨by rw [(Ext.cells (EB0.trans hW)).1 _ _ hgo]; exact HXB.out.1, by rw [(Ext.cells (EB0.trans hW)).1 _ _ hgo]; exact HXB.out.2.1, by rw [(Ext.cells (EB0.trans hW)).1 _ _ hgo]; exact HXB.out.2.2⟩)
              have HNX := hid (show srtZ z (k + 1) = insZ z3 m x0 x1 x2 by rw [HNX0.out, HINS.out])
              go_wp2_with (fail)
              have HT := hid (show IntRow .i64 3 wB (.slice (some ⟨g4, 0, none⟩) m c4) m (z3.take (m * 3)) from take3 (HRo.out.ext EB0) hmk)
              have HD := hid (show IntRow .i64 3 wB (.slice (some ⟨g4, m * 3, none⟩) (k - m) (c4 - m)) (k - m) (z3.drop (m * 3)) from by have := drop3 (HRo.out.ext EB0) hmk; simpa using this)
              refine wp_region_noPanic ?_
              refine wp_region_held_drew (S := (fun W => W.cell? ⟨gx, 0, none⟩ = some (.int .i64 x0) ∧ W.cell? ⟨gx, 1, none⟩ = some (.int .i64 x1) ∧ W.cell? ⟨gx, 2, none⟩ = some (.int .i64 x2))) (by kernel_rfl) ?_ (fun hHeld => ?_)
              · first | exact SKP.out _ (EB.drew) | (dsimp only; exact SKP.out _ (EB.drew))
              have ED := EB.drew
              generalize wB.drew = wd at *
              refine wpAnyH_take (i := 1) (oi := { dst := some 30, op := _, type := _, pos := _, after := _, guard := _ }) (v := ?_) rfl (by kernel_rfl) (by kernel_rfl) (by kernel_rfl) (fun _ _ _ h => h) (Or.inl ⟨by rfl, ?_⟩) (by assumption) ?_
              rotate_left
              · (intro w hSw; (try dsimp only at hSw); go_simp) <;> (first | done | with_reducible rfl | rfl)
              try simp only [Act.put, List.setIfInBounds_toArray, List.set_cons_zero, List.set_cons_succ]
              refine wpAnyH_take (i := 2) (oi := { dst := some 31, op := _, type := _, pos := _, after := _, guard := _ }) (v := ?_) rfl (by kernel_rfl) (by kernel_rfl) (by kernel_rfl) (fun _ _ _ h => h) (Or.inl ⟨by rfl, ?_⟩) (by assumption) ?_
              rotate_left
              · (intro w hSw; (try dsimp only at hSw); go_simp) <;> (first | done | with_reducible rfl | rfl)
              try simp only [Act.put, List.setIfInBounds_toArray, List.set_cons_zero, List.set_cons_succ]
              refine wpAnyH_take (i := 3) (oi := { dst := some 32, op := _, type := _, pos := _, after := _, guard := _ }) (v := ?_) rfl (by kernel_rfl) (by kernel_rfl) (by kernel_rfl) (fun _ _ _ h => h) (Or.inl ⟨by rfl, ?_⟩) (by assumption) ?_
              rotate_left
              · (intro w hSw; (try dsimp only at hSw); go_simp) <;> (first | done | with_reducible rfl | rfl)
              try simp only [Act.put, List.setIfInBounds_toArray, List.set_cons_zero, List.set_cons_succ]
              refine wpAnyH_take (i := 5) (oi := { dst := some 34, op := _, type := _, pos := _, after := _, guard := _ }) (v := ?_) rfl (by kernel_rfl) (by kernel_rfl) (by kernel_rfl) (fun _ _ _ h => h) (Or.inl ⟨by rfl, ?_⟩) (by assumption) ?_
              rotate_left
              · (intro w hSw; (try dsimp only at hSw); go_simp) <;> (first | done | with_reducible rfl | rfl)
              try simp only [Act.put, List.setIfInBounds_toArray, List.set_cons_zero, List.set_cons_succ]
              refine wpAnyH_take (i := 8) (oi := { dst := some 37, op := _, type := _, pos := _, after := _, guard := _ }) (v := ?_) rfl (by kernel_rfl) (by kernel_rfl) (by kernel_rfl) (fun _ _ _ h => h) (Or.inl ⟨by rfl, ?_⟩) (by assumption) ?_
              rotate_left
              · (intro w hSw; (try dsimp only at hSw); go_simp) <;> (first | done | with_reducible rfl | rfl)
              try simp only [Act.put, List.setIfInBounds_toArray, List.set_cons_zero, List.set_cons_succ]
              refine wpAnyH_take (i := 9) (oi := { dst := some 38, op := _, type := _, pos := _, after := _, guard := _ }) (v := ?_) rfl (by kernel_rfl) (by kernel_rfl) (by kernel_rfl) (fun _ _ _ h => h) (Or.inl ⟨by rfl, ?_⟩) (by assumption) ?_
              rotate_left
              · (intro w hSw; (try dsimp only at hSw); go_simp) <;> (first | done | with_reducible rfl | rfl)
              try simp only [Act.put, List.setIfInBounds_toArray, List.set_cons_zero, List.set_cons_succ]
              refine wpAnyH_take (i := 10) (oi := { dst := some 39, op := _, type := _, pos := _, after := _, guard := _ }) (v := ?_) rfl (by kernel_rfl) (by kernel_rfl) (by kernel_rfl) (fun _ _ _ h => h) (Or.inl ⟨by rfl, ?_⟩) (by assumption) ?_
              rotate_left
              · (intro w hSw; (try dsimp only at hSw); go_simp) <;> (first | done | with_reducible rfl | rfl)
              try simp only [Act.put, List.setIfInBounds_toArray, List.set_cons_zero, List.set_cons_succ]
              refine wpAnyH_ready (rs := [0, 6]) (by kernel_rfl) (by simp) ?_
              refine AllReadyH.cons (o := { dst := some 29, op := _, type := _, pos := _, after := _, guard := _ }) rfl (fun K hK => ?_) (AllReadyH.cons (o := { dst := some 35, op := _, type := _, pos := _, after := _, guard := _ }) rfl (fun K hK => ?_) AllReadyH.nil)
              · go_simp
                have E1 : Ext wB (wd.alloc (.cells #[] 42)) := Ext.alloc ED _
                have R1 := row_mono (row_empty3 wd 42) (show wB.heap.size ≤ wd.heap.size from ED.size)
                obtain ⟨g29, hg29⟩ : ∃ q, q = wd.heap.size := ⟨_, rfl⟩
                have hgl : wB.heap.size ≤ g29 := by rw [hg29]; exact ED.size
                have hlt29 : g29 < (wd.alloc (.cells #[] 42)).heap.size := by rw [hg29]; simp
                rw [← hg29] at R1 ⊢
                clear hg29
                obtain ⟨wk1, hw1⟩ : ∃ W, W = wd.alloc (.cells #[] 42) := ⟨_, rfl⟩
                rw [← hw1] at E1 R1 hlt29 ⊢
                clear hw1
                refine hK.out _ _ (by first | exact SKP.out _ E1 | (dsimp only; exact SKP.out _ E1)) (fun hHeld => ?_)
                clear hK K
                try simp only [Act.put, List.setIfInBounds_toArray, List.set_cons_zero, List.set_cons_succ]
                refine wpAnyH_ready (rs := [4, 6]) (by kernel_rfl) (by simp) ?_
                refine AllReadyH.cons (o := { dst := some 33, op := _, type := _, pos := _, after := _, guard := _ }) rfl (fun K hK => ?_) (AllReadyH.cons (o := { dst := some 35, op := _, type := _, pos := _, after := _, guard := _ }) rfl (fun K hK => ?_) AllReadyH.nil)
                · refine step_src3 (by rfl) (.tmp 29) (.tmp 32) 23 (by rfl) wB.heap.size 42 i0 _ Tryd.underlying23 hi hz0 hz1 hz2 rfl _ 0 [] (by rfl) R1 _ m (z3.take (m * 3)) (by rfl) (HT.out.ext E1) (by omega) E1.size ?_
                  intro v2 wk2 R2 G2
                  have E2 : Ext wB wk2 := Ext.of_grownAt E1 G2 (fun q hq => (R1.lt q hq).1)
                  refine hK.out _ _ (by first | exact SKP.out _ E2 | (dsimp only; exact SKP.out _ E2)) (fun hHeld => ?_)
                  clear hK K
                  try simp only [Act.put, List.setIfInBounds_toArray, List.set_cons_zero, List.set_cons_succ]
                  refine wpAnyH_ready (rs := [6]) (by kernel_rfl) (by simp) ?_
                  refine AllReadyH.cons (o := { dst := some 35, op := _, type := _, pos := _, after := _, guard := _ }) rfl (fun K hK => ?_) AllReadyH.nil
                  go_simp
                  have E3 : Ext wB (wk2.alloc (.cells #[.int .i64 x0, .int .i64 x1, .int .i64 x2] 42)) := Ext.alloc E2 _
                  have L3 := lit3_row wk2 x0 x1 x2 42 hx0 hx1 hx2
                  have R3 := row_ext R2 ((Ext.refl wk2).alloc (.cells #[.int .i64 x0, .int .i64 x1, .int .i64 x2] 42))
                  obtain ⟨g35, hg35⟩ : ∃ q, q = wk2.heap.size := ⟨_, rfl⟩
                  rw [← hg35] at L3 ⊢
                  clear hg35
                  obtain ⟨wk3, hw3⟩ : ∃ W, W = wk2.alloc (.cells #[.int .i64 x0, .int .i64 x1, .int .i64 x2] 42) := ⟨_, rfl⟩
                  rw [← hw3] at E3 R3 L3 ⊢
                  clear hw3
                  refine hK.out _ _ (by first | exact SKP.out _ E3 | (dsimp only; exact SKP.out _ E3)) (fun hHeld => ?_)
                  clear hK K
                  try simp only [Act.put, List.setIfInBounds_toArray, List.set_cons_zero, List.set_cons_succ]
                  refine wpAnyH_ready (rs := [7]) (by kernel_rfl) (by simp) ?_
                  refine AllReadyH.cons (o := { dst := some 36, op := _, type := _, pos := _, after := _, guard := _ }) rfl (fun K hK => ?_) AllReadyH.nil
                  refine step_src3 (by rfl) (.tmp 33) (.tmp 35) 23 (by rfl) wB.heap.size 42 i0 _ Tryd.underlying23 hi hz0 hz1 hz2 rfl _ (0 + m) _ (by rfl) R3 _ 1 [x0, x1, x2] (by rfl) L3 (by omega) E3.size ?_
                  intro v4 wk4 R4 G4
                  have E4 : Ext wB wk4 := Ext.of_grownAt E3 G4 (fun q hq => (R3.lt q hq).1)
                  refine hK.out _ _ (by first | exact SKP.out _ E4 | (dsimp only; exact SKP.out _ E4)) (fun hHeld => ?_)
                  clear hK K
                  try simp only [Act.put, List.setIfInBounds_toArray, List.set_cons_zero, List.set_cons_succ]
                  refine wpAnyH_ready (rs := [11]) (by kernel_rfl) (by simp) ?_
                  refine AllReadyH.cons (o := { dst := some 40, op := _, type := _, pos := _, after := _, guard := _ }) rfl (fun K hK => ?_) AllReadyH.nil
                  refine step_src3 (by rfl) (.tmp 36) (.tmp 39) 23 (by rfl) wB.heap.size 42 i0 _ Tryd.underlying23 hi hz0 hz1 hz2 rfl _ (0 + m + 1) _ (by rfl) R4 _ (k - m) (z3.drop (m * 3)) (by rfl) (HD.out.ext E4) (by omega) E4.size ?_
                  intro v5 wk5 R5 G5
                  have E5 : Ext wB wk5 := Ext.of_grownAt E4 G5 (fun q hq => (R4.lt q hq).1)
                  refine hK.out _ _ (by first | exact SKP.out _ E5 | (dsimp only; exact SKP.out _ E5)) (fun hHeld => ?_)
                  clear hK K
                  try simp only [Act.put, List.setIfInBounds_toArray, List.set_cons_zero, List.set_cons_succ]
                  refine wpAnyH_take (i := 12) (oi := { dst := some 4, op := _, type := _, pos := _, after := _, guard := _ }) (v := ?_) rfl (by kernel_rfl) (by kernel_rfl) (by kernel_rfl) (fun _ _ _ h => h) (Or.inl ⟨by rfl, ?_⟩) (by assumption) ?_
                  rotate_left
                  · (intro w hSw; (try dsimp only at hSw); go_simp) <;> (first | done | with_reducible rfl | rfl)
                  try simp only [Act.put, List.setIfInBounds_toArray, List.set_cons_zero, List.set_cons_succ]
                  refine wpAnyH_done (by kernel_rfl) ?_ _
                  refine NoPanic.normal ?_
                  go_wp2_with (fail)
                  go_roundw
                  case rel =>
                    refine ⟨k + 1, by omega, by first | go_num | rfl, ?_, EW.trans E5⟩
                    rw [HNX.out, show (insZ z3 m x0 x1 x2).map (Value.int .i64) = [] ++ (z3.take (m * 3)).map (Value.int .i64) ++ [x0, x1, x2].map (Value.int .i64) ++ (z3.drop (m * 3)).map (Value.int .i64) by simp [insZ]]
                    have eK : 0 + m + 1 + (k - m) = k + 1 := by omega
                    rw [eK] at R5
                    exact row_mono R5 EW.size
                  case measure => simp [intOf]; omega
                · go_simp
                  have E6 : Ext wB (wk1.alloc (.cells #[.int .i64 x0, .int .i64 x1, .int .i64 x2] 42)) := Ext.alloc E1 _
                  have L6 := lit3_row wk1 x0 x1 x2 42 hx0 hx1 hx2
                  have R6 := row_ext R1 ((Ext.refl wk1).alloc (.cells #[.int .i64 x0, .int .i64 x1, .int .i64 x2] 42))
                  obtain ⟨g35, hg35⟩ : ∃ q, q = wk1.heap.size := ⟨_, rfl⟩
                  have hne : g29 ≠ g35 := by rw [hg35]; omega
                  rw [← hg35] at L6 ⊢
                  clear hg35
                  obtain ⟨wk6, hw6⟩ : ∃ W, W = wk1.alloc (.cells #[.int .i64 x0, .int .i64 x1, .int .i64 x2] 42) := ⟨_, rfl⟩
                  rw [← hw6] at E6 R6 L6 ⊢
                  clear hw6
                  refine hK.out _ _ (by first | exact SKP.out _ E6 | (dsimp only; exact SKP.out _ E6)) (fun hHeld => ?_)
                  clear hK K
                  try simp only [Act.put, List.setIfInBounds_toArray, List.set_cons_zero, List.set_cons_succ]
                  refine wpAnyH_ready (rs := [4]) (by kernel_rfl) (by simp) ?_
                  refine AllReadyH.cons (o := { dst := some 33, op := _, type := _, pos := _, after := _, guard := _ }) rfl (fun K hK => ?_) AllReadyH.nil
                  refine step_src3 (by rfl) (.tmp 29) (.tmp 32) 23 (by rfl) wB.heap.size 42 i0 _ Tryd.underlying23 hi hz0 hz1 hz2 rfl _ 0 [] (by rfl) R6 _ m (z3.take (m * 3)) (by rfl) (HT.out.ext E6) (by omega) E6.size ?_
                  intro v7 wk7 R7 G7
                  have E7 : Ext wB wk7 := Ext.of_grownAt E6 G7 (fun q hq => (R6.lt q hq).1)
                  have L7 := introw_far3 L6 G7 (by simp [Value.ownBlock]; omega)
                  refine hK.out _ _ (by first | exact SKP.out _ E7 | (dsimp only; exact SKP.out _ E7)) (fun hHeld => ?_)
                  clear hK K
                  try simp only [Act.put, List.setIfInBounds_toArray, List.set_cons_zero, List.set_cons_succ]
                  refine wpAnyH_ready (rs := [7]) (by kernel_rfl) (by simp) ?_
                  refine AllReadyH.cons (o := { dst := some 36, op := _, type := _, pos := _, after := _, guard := _ }) rfl (fun K hK => ?_) AllReadyH.nil
                  refine step_src3 (by rfl) (.tmp 33) (.tmp 35) 23 (by rfl) wB.heap.size 42 i0 _ Tryd.underlying23 hi hz0 hz1 hz2 rfl _ (0 + m) _ (by rfl) R7 _ 1 [x0, x1, x2] (by rfl) L7 (by omega) E7.size ?_
                  intro v8 wk8 R8 G8
                  have E8 : Ext wB wk8 := Ext.of_grownAt E7 G8 (fun q hq => (R7.lt q hq).1)
                  refine hK.out _ _ (by first | exact SKP.out _ E8 | (dsimp only; exact SKP.out _ E8)) (fun hHeld => ?_)
                  clear hK K
                  try simp only [Act.put, List.setIfInBounds_toArray, List.set_cons_zero, List.set_cons_succ]
                  refine wpAnyH_ready (rs := [11]) (by kernel_rfl) (by simp) ?_
                  refine AllReadyH.cons (o := { dst := some 40, op := _, type := _, pos := _, after := _, guard := _ }) rfl (fun K hK => ?_) AllReadyH.nil
                  refine step_src3 (by rfl) (.tmp 36) (.tmp 39) 23 (by rfl) wB.heap.size 42 i0 _ Tryd.underlying23 hi hz0 hz1 hz2 rfl _ (0 + m + 1) _ (by rfl) R8 _ (k - m) (z3.drop (m * 3)) (by rfl) (HD.out.ext E8) (by omega) E8.size ?_
                  intro v9 wk9 R9 G9
                  have E9 : Ext wB wk9 := Ext.of_grownAt E8 G9 (fun q hq => (R8.lt q hq).1)
                  refine hK.out _ _ (by first | exact SKP.out _ E9 | (dsimp only; exact SKP.out _ E9)) (fun hHeld => ?_)
                  clear hK K
                  try simp only [Act.put, List.setIfInBounds_toArray, List.set_cons_zero, List.set_cons_succ]
                  refine wpAnyH_take (i := 12) (oi := { dst := some 4, op := _, type := _, pos := _, after := _, guard := _ }) (v := ?_) rfl (by kernel_rfl) (by kernel_rfl) (by kernel_rfl) (fun _ _ _ h => h) (Or.inl ⟨by rfl, ?_⟩) (by assumption) ?_
                  rotate_left
                  · (intro w hSw; (try dsimp only at hSw); go_simp) <;> (first | done | with_reducible rfl | rfl)
                  try simp only [Act.put, List.setIfInBounds_toArray, List.set_cons_zero, List.set_cons_succ]
                  refine wpAnyH_done (by kernel_rfl) ?_ _
                  refine NoPanic.normal ?_
                  go_wp2_with (fail)
                  go_roundw
                  case rel =>
                    refine ⟨k + 1, by omega, by first | go_num | rfl, ?_, EW.trans E9⟩
                    rw [HNX.out, show (insZ z3 m x0 x1 x2).map (Value.int .i64) = [] ++ (z3.take (m * 3)).map (Value.int .i64) ++ [x0, x1, x2].map (Value.int .i64) ++ (z3.drop (m * 3)).map (Value.int .i64) by simp [insZ]]
                    have eK : 0 + m + 1 + (k - m) = k + 1 := by omega
                    rw [eK] at R9
                    exact row_mono R9 EW.size
                  case measure => simp [intOf]; omega
              · go_simp
                have E10 : Ext wB (wd.alloc (.cells #[.int .i64 x0, .int .i64 x1, .int .i64 x2] 42)) := Ext.alloc ED _
                have L10 := lit3_row wd x0 x1 x2 42 hx0 hx1 hx2
                obtain ⟨g35, hg35⟩ : ∃ q, q = wd.heap.size := ⟨_, rfl⟩
                have hlt35 : g35 < (wd.alloc (.cells #[.int .i64 x0, .int .i64 x1, .int .i64 x2] 42)).heap.size := by rw [hg35]; simp
                rw [← hg35] at L10 ⊢
                clear hg35
                obtain ⟨wk10, hw10⟩ : ∃ W, W = wd.alloc (.cells #[.int .i64 x0, .int .i64 x1, .int .i64 x2] 42) := ⟨_, rfl⟩
                rw [← hw10] at E10 L10 hlt35 ⊢
                clear hw10
                refine hK.out _ _ (by first | exact SKP.out _ E10 | (dsimp only; exact SKP.out _ E10)) (fun hHeld => ?_)
                clear hK K
                try simp only [Act.put, List.setIfInBounds_toArray, List.set_cons_zero, List.set_cons_succ]
                refine wpAnyH_ready (rs := [0]) (by kernel_rfl) (by simp) ?_
                refine AllReadyH.cons (o := { dst := some 29, op := _, type := _, pos := _, after := _, guard := _ }) rfl (fun K hK => ?_) AllReadyH.nil
                go_simp
                have E11 : Ext wB (wk10.alloc (.cells #[] 42)) := Ext.alloc E10 _
                have R11 := row_mono (row_empty3 wk10 42) (show wB.heap.size ≤ wk10.heap.size from E10.size)
                have L11 := IntRow.ext L10 ((Ext.refl wk10).alloc (.cells #[] 42))
                obtain ⟨g29, hg29⟩ : ∃ q, q = wk10.heap.size := ⟨_, rfl⟩
                have hne : g29 ≠ g35 := by rw [hg29]; omega
                have hgl : wB.heap.size ≤ g29 := by rw [hg29]; exact E10.size
                rw [← hg29] at R11 ⊢
                clear hg29
                obtain ⟨wk11, hw11⟩ : ∃ W, W = wk10.alloc (.cells #[] 42) := ⟨_, rfl⟩
                rw [← hw11] at E11 R11 L11 ⊢
                clear hw11
                refine hK.out _ _ (by first | exact SKP.out _ E11 | (dsimp only; exact SKP.out _ E11)) (fun hHeld => ?_)
                clear hK K
                try simp only [Act.put, List.setIfInBounds_toArray, List.set_cons_zero, List.set_cons_succ]
                refine wpAnyH_ready (rs := [4]) (by kernel_rfl) (by simp) ?_
                refine AllReadyH.cons (o := { dst := some 33, op := _, type := _, pos := _, after := _, guard := _ }) rfl (fun K hK => ?_) AllReadyH.nil
                refine step_src3 (by rfl) (.tmp 29) (.tmp 32) 23 (by rfl) wB.heap.size 42 i0 _ Tryd.underlying23 hi hz0 hz1 hz2 rfl _ 0 [] (by rfl) R11 _ m (z3.take (m * 3)) (by rfl) (HT.out.ext E11) (by omega) E11.size ?_
                intro v12 wk12 R12 G12
                have E12 : Ext wB wk12 := Ext.of_grownAt E11 G12 (fun q hq => (R11.lt q hq).1)
                have L12 := introw_far3 L11 G12 (by simp [Value.ownBlock]; omega)
                refine hK.out _ _ (by first | exact SKP.out _ E12 | (dsimp only; exact SKP.out _ E12)) (fun hHeld => ?_)
                clear hK K
                try simp only [Act.put, List.setIfInBounds_toArray, List.set_cons_zero, List.set_cons_succ]
                refine wpAnyH_ready (rs := [7]) (by kernel_rfl) (by simp) ?_
                refine AllReadyH.cons (o := { dst := some 36, op := _, type := _, pos := _, after := _, guard := _ }) rfl (fun K hK => ?_) AllReadyH.nil
                refine step_src3 (by rfl) (.tmp 33) (.tmp 35) 23 (by rfl) wB.heap.size 42 i0 _ Tryd.underlying23 hi hz0 hz1 hz2 rfl _ (0 + m) _ (by rfl) R12 _ 1 [x0, x1, x2] (by rfl) L12 (by omega) E12.size ?_
                intro v13 wk13 R13 G13
                have E13 : Ext wB wk13 := Ext.of_grownAt E12 G13 (fun q hq => (R12.lt q hq).1)
                refine hK.out _ _ (by first | exact SKP.out _ E13 | (dsimp only; exact SKP.out _ E13)) (fun hHeld => ?_)
                clear hK K
                try simp only [Act.put, List.setIfInBounds_toArray, List.set_cons_zero, List.set_cons_succ]
                refine wpAnyH_ready (rs := [11]) (by kernel_rfl) (by simp) ?_
                refine AllReadyH.cons (o := { dst := some 40, op := _, type := _, pos := _, after := _, guard := _ }) rfl (fun K hK => ?_) AllReadyH.nil
                refine step_src3 (by rfl) (.tmp 36) (.tmp 39) 23 (by rfl) wB.heap.size 42 i0 _ Tryd.underlying23 hi hz0 hz1 hz2 rfl _ (0 + m + 1) _ (by rfl) R13 _ (k - m) (z3.drop (m * 3)) (by rfl) (HD.out.ext E13) (by omega) E13.size ?_
                intro v14 wk14 R14 G14
                have E14 : Ext wB wk14 := Ext.of_grownAt E13 G14 (fun q hq => (R13.lt q hq).1)
                refine hK.out _ _ (by first | exact SKP.out _ E14 | (dsimp only; exact SKP.out _ E14)) (fun hHeld => ?_)
                clear hK K
                try simp only [Act.put, List.setIfInBounds_toArray, List.set_cons_zero, List.set_cons_succ]
                refine wpAnyH_take (i := 12) (oi := { dst := some 4, op := _, type := _, pos := _, after := _, guard := _ }) (v := ?_) rfl (by kernel_rfl) (by kernel_rfl) (by kernel_rfl) (fun _ _ _ h => h) (Or.inl ⟨by rfl, ?_⟩) (by assumption) ?_
                rotate_left
                · (intro w hSw; (try dsimp only at hSw); go_simp) <;> (first | done | with_reducible rfl | rfl)
                try simp only [Act.put, List.setIfInBounds_toArray, List.set_cons_zero, List.set_cons_succ]
                refine wpAnyH_done (by kernel_rfl) ?_ _
                refine NoPanic.normal ?_
                go_wp2_with (fail)
                go_roundw
                case rel =>
                  refine ⟨k + 1, by omega, by first | go_num | rfl, ?_, EW.trans E14⟩
                  rw [HNX.out, show (insZ z3 m x0 x1 x2).map (Value.int .i64) = [] ++ (z3.take (m * 3)).map (Value.int .i64) ++ [x0, x1, x2].map (Value.int .i64) ++ (z3.drop (m * 3)).map (Value.int .i64) by simp [insZ]]
                  have eK : 0 + m + 1 + (k - m) = k + 1 := by omega
                  rw [eK] at R14
                  exact row_mono R14 EW.size
                case measure => simp [intOf]; omega
    · obtain rfl : n = k := by omega
      have HZW := hid (srtZ_wf hl HW.out)
      have HC := shGood_any u4 n (srtZ z n) wr (row_ints hrow (by unfold maxLen; omega) HZW.out)
      rw [show okSs (srtZ z n) n = Q from HQQ.out.symm] at HC
      clear hcell
      cases Q with
      | true =>
        have HL := hid (show soL z n = srtZ z n by unfold soL; rw [← HQQ.out]; rfl)
        go_wp2_with (fail)
        refine HC.mono ?_
        rintro e w2 ⟨rfl, hb2⟩
        have hr2 := row_ext hrow hb2
        go_wp2_with (fail)
        go_ret2
        rw [HLE.out, HL.out]
        refine ⟨_, rfl, ?_, hE.trans hb2⟩
        have e3 : (srtZ z n).length / 3 = n := by rw [srtZ_length]; omega
        rw [e3]
        exact hr2
      | false =>
        have HL := hid (show soL z n = [] by unfold soL; rw [← HQQ.out]; rfl)
        go_wp2_with (fail)
        refine HC.mono ?_
        rintro e w2 ⟨rfl, hb2⟩
        go_wp2_with (fail)
        go_ret2
        rw [HLE.out, HL.out]
        exact ⟨_, rfl, World.ownsRow_nil _ _ _ _, hE.trans hb2⟩

end Go.Proofs.YtedkffdkhnfoiaaDoor