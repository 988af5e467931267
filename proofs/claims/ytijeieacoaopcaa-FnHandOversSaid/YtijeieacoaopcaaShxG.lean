/- The chapter of shifts: two shifts exchanged. No condition. -/
import Derived.Test.YtijeieacoaopcaaShxF
namespace Go.Proofs.Ytijeieacoaopcaa
open Go.RowKit
set_option linter.unusedSimpArgs false
set_option linter.unusedVariables false
open Go.Shelf Go.Sort

/-- only blocks from lo to below hi have turned, of those that were there -/
def Chg (lo hi : Nat) (w w' : World) : Prop := w'.os = w.os ∧ w'.tape = w.tape ∧ w'.output = w.output ∧ w.heap.size ≤ w'.heap.size ∧ ∀ k, k < w.heap.size → (k < lo ∨ hi ≤ k) → w'.heap[k]? = w.heap[k]?
theorem Chg.of_grown {lo hi : Nat} {w w' : World} {r : Option Nat} (g : w.grownBy w' r) (hr : ∀ k, r = some k → lo ≤ k ∧ k < hi) : Chg lo hi w w' :=
  ⟨g.os, g.tape, g.output, g.size, fun k hk h => g.block k hk (fun e => by have := hr k e.symm; omega)⟩
theorem Chg.of_ext {lo hi : Nat} {w w' : World} (h : Ext w w') : Chg lo hi w w' := Chg.of_grown h.grown (fun k hk => by simp at hk)
theorem Chg.trans {lo hi : Nat} {a b c : World} (h : Chg lo hi a b) (k : Chg lo hi b c) : Chg lo hi a c :=
  ⟨k.1.trans h.1, k.2.1.trans h.2.1, k.2.2.1.trans h.2.2.1, Nat.le_trans h.2.2.2.1 k.2.2.2.1, fun j hj hh => (k.2.2.2.2 j (Nat.lt_of_lt_of_le hj h.2.2.2.1) hh).trans (h.2.2.2.2 j hj hh)⟩
theorem Ext.of_chg {a w w' : World} {lo hi : Nat} (h : Ext a w) (c : Chg lo hi w w') (hlo : a.heap.size ≤ lo) : Ext a w' :=
  show Below a.heap.size a w' from ⟨c.1.trans (Below.os h), c.2.1.trans (Below.tape h), c.2.2.1.trans (Below.output h), Nat.le_trans (Below.size h) c.2.2.2.1, fun k hk => (c.2.2.2.2 k (Nat.lt_of_lt_of_le hk (Below.size h)) (.inl (by omega))).trans (Below.block h k hk)⟩
theorem row_chg {w w' : World} {lo hi base : Nat} {e : TypeId} {size : Nat} {v : Value} {n : Nat} {xs : List Value} (h : w.ownsRow base e size v n xs) (c : Chg lo hi w w') (hv : ∀ k, v.ownBlock = some k → k < lo ∨ hi ≤ k) : w'.ownsRow base e size v n xs := by
  refine ⟨h.1, ?_⟩
  rcases h.2 with h2 | ⟨g, cap, cur, rfl, h3, h4, h5⟩
  · exact .inl h2
  · exact .inr ⟨g, cap, cur, rfl, h3, by rw [c.2.2.2.2 g (h.lt g rfl).2 (hv g rfl)]; exact h4, h5⟩

set_option maxRecDepth 100000 in
set_option maxHeartbeats 400000 in
theorem shHas_any (v : Value) (n : Nat) (z : List Int) (i : Int) (w : World) (h : IntRow .i64 3 w v n z) :
    Calls Try.prog 28 #[v, .int .i64 i] w fun e w' => e = .returned (.bool (okSs z n && inR i 0 ((n : Int) - 1))) ∧ Ext w w' := by
  have hh := h
  obtain ⟨hl, hm, hwf, a, c, rfl, hnc, hcm, hcell⟩ := h
  have hn9 : n ≤ 9223372036854775807 := by unfold maxLen at hm; omega
  clear hwf hcell hm
  cases hA : okSs z n with
  | false =>
    have HA := hid hA
    clear hA
    go_enter Try.func28, Try.ntmps28
    go_wp2_with (fail)
    refine (shGood_any _ n z _ hh).mono ?_
    rw [HA.out]
    rintro e w1 ⟨rfl, hb1⟩
    go_wp2_with (fail)
    go_ret
    exact ⟨rfl, hb1⟩
  | true =>
    have HA := hid hA
    clear hA
    rw [Bool.true_and]
    go_enter Try.func28, Try.ntmps28
    go_wp2_with (fail)
    refine (shGood_any _ n z _ hh).mono ?_
    rw [HA.out]
    rintro e w1 ⟨rfl, hb1⟩
    go_wp2_with (fail)
    refine (l1In_any _ _ _ _).mono ?_
    rintro e w2 ⟨rfl, rfl⟩
    go_wp2_with (fail)
    go_ret
    exact ⟨rfl, hb1⟩

/-- the operators of shifts i and k exchanged -/
def exZ (z : List Int) (i k : Nat) : List Int := (z.set (i * 3) (shOp z k)).set (k * 3) (shOp z i)
theorem exZ_length (z : List Int) (i k : Nat) : (exZ z i k).length = z.length := by simp [exZ]
theorem exZ_map (z : List Int) (i k : Nat) : (exZ z i k).map (Value.int .i64) = ((z.map (Value.int .i64)).set (i * 3) (.int .i64 (shOp z k))).set (k * 3) (.int .i64 (shOp z i)) := by simp [exZ, List.map_set]
theorem set_mem {z : List Int} {i : Nat} {a x : Int} (h : x ∈ z.set i a) : x ∈ z ∨ x = a := List.mem_or_eq_of_mem_set h
theorem exZ_wf {z : List Int} {n i k : Nat} (hz : z.length = n * 3) (hi : i < n) (hk : k < n) (hw : ∀ x ∈ z, (Lit.int .i64 x).wf = true) : ∀ x ∈ exZ z i k, (Lit.int .i64 x).wf = true := fun x hx => by
  rcases set_mem hx with hx | rfl
  · rcases set_mem hx with hx | rfl
    · exact hw x hx
    · exact getD_wf hw (by omega)
  · exact getD_wf hw (by omega)
def exC (z : List Int) (n : Nat) (i k : Int) : Bool := okSs z n && (inR i 0 ((n : Int) - 1) && inR k 0 ((n : Int) - 1))
def exO (z : List Int) (n : Nat) (i k : Int) : Bool := exC z n i k && soO (exZ z i.toNat k.toNat) n
def exL (z : List Int) (n : Nat) (i k : Int) : List Int := if exC z n i k = true then soL (exZ z i.toNat k.toNat) n else []
theorem okSs_60 {z : List Int} {n : Nat} (h : okSs z n = true) : n ≤ 60 := by
  unfold okSs at h
  rw [Bool.and_eq_true, decide_eq_true_eq] at h
  exact h.1
theorem exC_iff {z : List Int} {n : Nat} {i k : Int} (h : exC z n i k = true) : okSs z n = true ∧ n ≤ 60 ∧ (0 ≤ i ∧ i < n) ∧ 0 ≤ k ∧ k < n := by
  unfold exC at h
  rw [Bool.and_eq_true, Bool.and_eq_true, inR_iff, inR_iff] at h
  exact ⟨h.1, okSs_60 h.1, ⟨h.2.1.1, by omega⟩, h.2.2.1, by omega⟩
theorem soL_inv {z : List Int} {n : Nat} (hz : z.length = n * 3) (hn : n ≤ 61) (hw : ∀ x ∈ z, (Lit.int .i64 x).wf = true) : (∀ x ∈ soL z n, (Lit.int .i64 x).wf = true) ∧ (soL z n).length ≤ 183 := by
  unfold soL
  by_cases c : soO z n = true
  · rw [if_pos c]
    exact ⟨srtZ_wf hz hw, by rw [srtZ_length]; omega⟩
  · rw [if_neg c]
    simp
theorem exL_inv {z : List Int} {n : Nat} (i k : Int) (hz : z.length = n * 3) (hw : ∀ x ∈ z, (Lit.int .i64 x).wf = true) : (∀ x ∈ exL z n i k, (Lit.int .i64 x).wf = true) ∧ (exL z n i k).length ≤ 183 := by
  unfold exL
  by_cases c : exC z n i k = true
  · rw [if_pos c]
    obtain ⟨_, h2, h3, h4⟩ := exC_iff c
    exact soL_inv (by rw [exZ_length, hz]) (by omega) (exZ_wf hz (by omega) (by omega) hw)
  · rw [if_neg c]
    simp

theorem ex_swap (a b c : Bool) : (a && (b && c)) = ((a && b) && (a && c)) := by cases a <;> cases b <;> cases c <;> rfl


set_option maxRecDepth 100000 in
set_option maxHeartbeats 4000000 in
theorem iExchangeShifts_any (v : Value) (n : Nat) (z : List Int) (i k : Int) (w : World) (h : IntRow .i64 3 w v n z) :
    Calls Try.prog 8 #[v, .int .i64 i, .int .i64 k] w fun e w' => ∃ v', e = .returned (.tuple #[v', .bool (exO z n i k)]) ∧ w'.ownsRow w.heap.size 42 3 v' ((exL z n i k).length / 3) ((exL z n i k).map (Value.int .i64)) ∧ Ext w w' := by
  obtain ⟨i0, hi0, hz0, hz1, hz2⟩ := info_parts info_Shift
  have hh := hid h
  obtain ⟨hl, hm, hwf, a, c, rfl, hnc, hcm, hcell⟩ := h
  have hn9 : n ≤ 9223372036854775807 := by unfold maxLen at hm; omega
  have HW := hid hwf
  clear hwf hm
  obtain ⟨Q, hQ⟩ : ∃ q, q = exO z n i k := ⟨_, rfl⟩
  obtain ⟨L, hLe⟩ : ∃ l, l = exL z n i k := ⟨_, rfl⟩
  rw [← hQ, ← hLe]
  have HLE := hid hLe
  have HQQ := hid hQ
  clear hQ hLe
  cases h0 : okSs z n with
  | false =>
    have H0 := hid h0
    have HC := hid (show exC z n i k = false by unfold exC; simp [H0.out])
    have HQ2 := hid (show Q = false by rw [HQQ.out]; unfold exO; rw [HC.out]; rfl)
    have HL2 := hid (show L = [] by rw [HLE.out]; unfold exL; rw [HC.out]; rfl)
    clear h0
    go_enter Try.func8, Try.ntmps8
    go_wp2_with (fail)
    refine (iAreShifts_any _ n z _ (hh.out.ext (by repeat (first | exact Ext.refl _ | assumption | refine Ext.alloc ?_ _ | refine Ext.drew ?_ | refine Ext.drewN ?_ _ | refine Ext.setCell ?_ (by first | exact Nat.le_refl _ | (simp; done) | (dsimp only; omega) | (simp only [World.size_alloc, World.size_setCell]; omega)) _ | refine Ext.trans ?_ (by assumption))))).mono ?_
    rw [H0.out]
    rintro e w1 ⟨rfl, hb1⟩
    go_wp2_with (fail)
    go_ret2
    rw [HQ2.out, HL2.out]
    exact ⟨_, rfl, World.ownsRow_nil _ _ _ _, (by repeat (first | exact Ext.refl _ | assumption | refine Ext.alloc ?_ _ | refine Ext.drew ?_ | refine Ext.drewN ?_ _ | refine Ext.setCell ?_ (by first | exact Nat.le_refl _ | (simp; done) | (dsimp only; omega) | (simp only [World.size_alloc, World.size_setCell]; omega)) _ | refine Ext.trans ?_ (by assumption)))⟩
  | true =>
    have H0 := hid h0
    clear h0
    cases h1 : inR i 0 ((n : Int) - 1) with
    | false =>
      have H1 := hid h1
      have HC := hid (show exC z n i k = false by unfold exC; simp [H0.out, H1.out])
      have HQ2 := hid (show Q = false by rw [HQQ.out]; unfold exO; rw [HC.out]; rfl)
      have HL2 := hid (show L = [] by rw [HLE.out]; unfold exL; rw [HC.out]; rfl)
      clear h1
      go_enter Try.func8, Try.ntmps8
      go_wp2_with (fail)
      refine (iAreShifts_any _ n z _ (hh.out.ext (by repeat (first | exact Ext.refl _ | assumption | refine Ext.alloc ?_ _ | refine Ext.drew ?_ | refine Ext.drewN ?_ _ | refine Ext.setCell ?_ (by first | exact Nat.le_refl _ | (simp; done) | (dsimp only; omega) | (simp only [World.size_alloc, World.size_setCell]; omega)) _ | refine Ext.trans ?_ (by assumption))))).mono ?_
      rw [H0.out]
      rintro e w1 ⟨rfl, hb1⟩
      go_wp2_with (fail)
      refine (within_any _ _ _ _).mono ?_
      rw [H1.out]
      rintro e w' ⟨rfl, rfl⟩
      go_wp2_with (fail)
      go_ret2
      rw [HQ2.out, HL2.out]
      exact ⟨_, rfl, World.ownsRow_nil _ _ _ _, (by repeat (first | exact Ext.refl _ | assumption | refine Ext.alloc ?_ _ | refine Ext.drew ?_ | refine Ext.drewN ?_ _ | refine Ext.setCell ?_ (by first | exact Nat.le_refl _ | (simp; done) | (dsimp only; omega) | (simp only [World.size_alloc, World.size_setCell]; omega)) _ | refine Ext.trans ?_ (by assumption)))⟩
    | true =>
      have H1 := hid h1
      clear h1
      cases h2 : inR k 0 ((n : Int) - 1) with
      | false =>
        have H2 := hid h2
        have HC := hid (show exC z n i k = false by unfold exC; simp [H0.out, H1.out, H2.out])
        have HQ2 := hid (show Q = false by rw [HQQ.out]; unfold exO; rw [HC.out]; rfl)
        have HL2 := hid (show L = [] by rw [HLE.out]; unfold exL; rw [HC.out]; rfl)
        clear h2
        go_enter Try.func8, Try.ntmps8
        go_wp2_with (fail)
        refine (iAreShifts_any _ n z _ (hh.out.ext (by repeat (first | exact Ext.refl _ | assumption | refine Ext.alloc ?_ _ | refine Ext.drew ?_ | refine Ext.drewN ?_ _ | refine Ext.setCell ?_ (by first | exact Nat.le_refl _ | (simp; done) | (dsimp only; omega) | (simp only [World.size_alloc, World.size_setCell]; omega)) _ | refine Ext.trans ?_ (by assumption))))).mono ?_
        rw [H0.out]
        rintro e w1 ⟨rfl, hb1⟩
        go_wp2_with (fail)
        refine (within_any _ _ _ _).mono ?_
        rw [H1.out]
        rintro e w' ⟨rfl, rfl⟩
        go_wp2_with (fail)
        refine (within_any _ _ _ _).mono ?_
        rw [H2.out]
        rintro e w' ⟨rfl, rfl⟩
        go_wp2_with (fail)
        go_ret2
        rw [HQ2.out, HL2.out]
        exact ⟨_, rfl, World.ownsRow_nil _ _ _ _, (by repeat (first | exact Ext.refl _ | assumption | refine Ext.alloc ?_ _ | refine Ext.drew ?_ | refine Ext.drewN ?_ _ | refine Ext.setCell ?_ (by first | exact Nat.le_refl _ | (simp; done) | (dsimp only; omega) | (simp only [World.size_alloc, World.size_setCell]; omega)) _ | refine Ext.trans ?_ (by assumption)))⟩
      | true =>
        have H2 := hid h2
        clear h2
        have HC := hid (show exC z n i k = true by unfold exC; simp [H0.out, H1.out, H2.out])
        obtain ⟨hok, hn60, ⟨hi1, hi2⟩, hk1, hk2⟩ := exC_iff HC.out
        obtain ⟨i, rfl⟩ := Int.eq_ofNat_of_zero_le hi1
        obtain ⟨k, rfl⟩ := Int.eq_ofNat_of_zero_le hk1
        have hin : i < n := by omega
        have hkn : k < n := by omega
        have HQ2 := hid (show Q = soO (exZ z i k) n by rw [HQQ.out]; unfold exO; rw [HC.out]; rfl)
        have HL2 := hid (show L = soL (exZ z i k) n by rw [HLE.out]; unfold exL; rw [HC.out]; rfl)
        have HXW := hid (exZ_wf hl hin hkn HW.out)
        clear hok
        go_enter Try.func8, Try.ntmps8
        go_wp2_with (fail)
        refine (iAreShifts_any _ n z _ (hh.out.ext (by repeat (first | exact Ext.refl _ | assumption | refine Ext.alloc ?_ _ | refine Ext.drew ?_ | refine Ext.drewN ?_ _ | refine Ext.setCell ?_ (by first | exact Nat.le_refl _ | (simp; done) | (dsimp only; omega) | (simp only [World.size_alloc, World.size_setCell]; omega)) _ | refine Ext.trans ?_ (by assumption))))).mono ?_
        rw [H0.out]
        rintro e w1 ⟨rfl, hb1⟩
        go_wp2_with (fail)
        refine (within_any _ _ _ _).mono ?_
        rw [H1.out]
        rintro e w' ⟨rfl, rfl⟩
        go_wp2_with (fail)
        refine (within_any _ _ _ _).mono ?_
        rw [H2.out]
        rintro e w' ⟨rfl, rfl⟩
        go_wp2_with (fail)
        refine (clone_any _ n z _ (hh.out.ext (by repeat (first | exact Ext.refl _ | assumption | refine Ext.alloc ?_ _ | refine Ext.drew ?_ | refine Ext.drewN ?_ _ | refine Ext.setCell ?_ (by first | exact Nat.le_refl _ | (simp; done) | (dsimp only; omega) | (simp only [World.size_alloc, World.size_setCell]; omega)) _ | refine Ext.trans ?_ (by assumption)))) (by omega) (by omega)).mono ?_
        rintro e wc ⟨v2, rfl, hrc, hbc⟩
        have hEc : Ext w wc := (by repeat (first | exact Ext.refl _ | assumption | refine Ext.alloc ?_ _ | refine Ext.drew ?_ | refine Ext.drewN ?_ _ | refine Ext.setCell ?_ (by first | exact Nat.le_refl _ | (simp; done) | (dsimp only; omega) | (simp only [World.size_alloc, World.size_setCell]; omega)) _ | refine Ext.trans ?_ (by assumption)))
        have hEc1 : Ext w1 wc := hbc
        obtain ⟨ac, cc, rfl, hnc2, hcc, hgc⟩ := row_shape hrc
        obtain ⟨g, rfl, hgl, hgs⟩ := hgc.resolve_left (by omega)
        have hi3 : (0 : Int) ≤ (i : Int) := Int.natCast_nonneg _
        have hk3 : (0 : Int) ≤ (k : Int) := Int.natCast_nonneg _
        have hEd1 : Ext w1 wc.drew := hEc1.drew
        go_wp2_with (fail)
        refine wp_region_noPanic ?_
        refine wp_region_held_drew (S := fun _ => True) (by kernel_rfl) trivial (fun hHeld => ?_)
        have hEd : Ext w wc.drew := hEc.drew
        have hrd := row_ext hrc ((Ext.refl wc).drew)
        generalize wc.drew = wd at *
        have ci := hrd.cellAt (i * 3) (by omega)
        have ck := hrd.cellAt (k * 3) (by omega)
        rw [map_getD (by omega)] at ci ck
        obtain ⟨xi, hxi⟩ : ∃ x, x = z.getD (i * 3) 0 := ⟨_, rfl⟩
        obtain ⟨xk, hxk⟩ : ∃ x, x = z.getD (k * 3) 0 := ⟨_, rfl⟩
        rw [← hxi] at ci
        rw [← hxk] at ck
        have HXI := hid hxi
        have HXK := hid hxk
        clear hxi hxk
        have fi := hrd.frozenAt (i * 3)
        have fk := hrd.frozenAt (k * 3)
        have q0 := (hrd.stored (i * 3) (.int .i64 xk)).1
        have q1 := (q0.stored (k * 3) (.int .i64 xi)).1
        have f2 := q0.frozenAt (k * 3)
        obtain ⟨u2, c2, _⟩ := row_cell q0 (k * 3) (by omega)
        refine wpAnyH_take (i := 0) (oi := { dst := some 30, op := _, type := _, pos := _, after := _, guard := _ }) (v := ?_) rfl (by kernel_rfl) (by kernel_rfl) (by kernel_rfl) (fun _ _ _ h => h) (Or.inl ⟨by rfl, ?_⟩) trivial ?_
        rotate_left
        · (intro w hSw; (try dsimp only at hSw); go_simp) <;> (first | done | with_reducible rfl | rfl)
        try simp only [Act.put, List.setIfInBounds_toArray, List.set_cons_zero, List.set_cons_succ]
        refine wpAnyH_take (i := 1) (oi := { dst := some 31, op := _, type := _, pos := _, after := _, guard := _ }) (v := ?_) rfl (by kernel_rfl) (by kernel_rfl) (by kernel_rfl) (fun _ _ _ h => h) (Or.inl ⟨by rfl, ?_⟩) trivial ?_
        rotate_left
        · (intro w hSw; (try dsimp only at hSw); go_simp) <;> (first | done | with_reducible rfl | rfl)
        try simp only [Act.put, List.setIfInBounds_toArray, List.set_cons_zero, List.set_cons_succ]
        refine wpAnyH_take (i := 2) (oi := { dst := some 32, op := _, type := _, pos := _, after := _, guard := _ }) (v := ?_) rfl (by kernel_rfl) (by kernel_rfl) (by kernel_rfl) (fun _ _ _ h => h) (Or.inl ⟨by rfl, ?_⟩) trivial ?_
        rotate_left
        · (intro w hSw; (try dsimp only at hSw); go_simp) <;> (first | done | with_reducible rfl | rfl)
        try simp only [Act.put, List.setIfInBounds_toArray, List.set_cons_zero, List.set_cons_succ]
        refine wpAnyH_take (i := 3) (oi := { dst := some 33, op := _, type := _, pos := _, after := _, guard := _ }) (v := ?_) rfl (by kernel_rfl) (by kernel_rfl) (by kernel_rfl) (fun _ _ _ h => h) (Or.inl ⟨by rfl, ?_⟩) trivial ?_
        rotate_left
        · (intro w hSw; (try dsimp only at hSw); go_simp) <;> (first | done | with_reducible rfl | rfl)
        try simp only [Act.put, List.setIfInBounds_toArray, List.set_cons_zero, List.set_cons_succ]
        refine wpAnyH_take (i := 4) (oi := { dst := some 34, op := _, type := _, pos := _, after := _, guard := _ }) (v := ?_) rfl (by kernel_rfl) (by kernel_rfl) (by kernel_rfl) (fun _ _ _ h => h) (Or.inl ⟨by rfl, ?_⟩) trivial ?_
        rotate_left
        · (intro w hSw; (try dsimp only at hSw); go_simp) <;> (first | done | with_reducible rfl | rfl)
        try simp only [Act.put, List.setIfInBounds_toArray, List.set_cons_zero, List.set_cons_succ]
        refine wpAnyH_take (i := 5) (oi := { dst := some 35, op := _, type := _, pos := _, after := _, guard := _ }) (v := ?_) rfl (by kernel_rfl) (by kernel_rfl) (by kernel_rfl) (fun _ _ _ h => h) (Or.inl ⟨by rfl, ?_⟩) trivial ?_
        rotate_left
        · (intro w hSw; (try dsimp only at hSw); go_simp) <;> (first | done | with_reducible rfl | rfl)
        try simp only [Act.put, List.setIfInBounds_toArray, List.set_cons_zero, List.set_cons_succ]
        refine wpAnyH_take (i := 6) (oi := { dst := some 36, op := _, type := _, pos := _, after := _, guard := _ }) (v := ?_) rfl (by kernel_rfl) (by kernel_rfl) (by kernel_rfl) (fun _ _ _ h => h) (Or.inl ⟨by rfl, ?_⟩) trivial ?_
        rotate_left
        · (intro w hSw; (try dsimp only at hSw); go_simp) <;> (first | done | with_reducible rfl | rfl)
        try simp only [Act.put, List.setIfInBounds_toArray, List.set_cons_zero, List.set_cons_succ]
        refine wpAnyH_take (i := 7) (oi := { dst := some 37, op := _, type := _, pos := _, after := _, guard := _ }) (v := ?_) rfl (by kernel_rfl) (by kernel_rfl) (by kernel_rfl) (fun _ _ _ h => h) (Or.inl ⟨by rfl, ?_⟩) trivial ?_
        rotate_left
        · (intro w hSw; (try dsimp only at hSw); go_simp) <;> (first | done | with_reducible rfl | rfl)
        try simp only [Act.put, List.setIfInBounds_toArray, List.set_cons_zero, List.set_cons_succ]
        refine wpAnyH_take (i := 9) (oi := { dst := some 39, op := _, type := _, pos := _, after := _, guard := _ }) (v := ?_) rfl (by kernel_rfl) (by kernel_rfl) (by kernel_rfl) (fun _ _ _ h => h) (Or.inl ⟨by rfl, ?_⟩) trivial ?_
        rotate_left
        · (intro w hSw; (try dsimp only at hSw); go_simp) <;> (first | done | with_reducible rfl | rfl)
        try simp only [Act.put, List.setIfInBounds_toArray, List.set_cons_zero, List.set_cons_succ]
        refine wpAnyH_take (i := 10) (oi := { dst := some 40, op := _, type := _, pos := _, after := _, guard := _ }) (v := ?_) rfl (by kernel_rfl) (by kernel_rfl) (by kernel_rfl) (fun _ _ _ h => h) (Or.inl ⟨by rfl, ?_⟩) trivial ?_
        rotate_left
        · (intro w hSw; (try dsimp only at hSw); go_simp) <;> (first | done | with_reducible rfl | rfl)
        try simp only [Act.put, List.setIfInBounds_toArray, List.set_cons_zero, List.set_cons_succ]
        refine wpAnyH_take (i := 11) (oi := { dst := some 41, op := _, type := _, pos := _, after := _, guard := _ }) (v := ?_) rfl (by kernel_rfl) (by kernel_rfl) (by kernel_rfl) (fun _ _ _ h => h) (Or.inl ⟨by rfl, ?_⟩) trivial ?_
        rotate_left
        · (intro w hSw; (try dsimp only at hSw); go_simp) <;> (first | done | with_reducible rfl | rfl)
        try simp only [Act.put, List.setIfInBounds_toArray, List.set_cons_zero, List.set_cons_succ]
        refine wpAnyH_take (i := 12) (oi := { dst := some 42, op := _, type := _, pos := _, after := _, guard := _ }) (v := ?_) rfl (by kernel_rfl) (by kernel_rfl) (by kernel_rfl) (fun _ _ _ h => h) (Or.inl ⟨by rfl, ?_⟩) trivial ?_
        rotate_left
        · (intro w hSw; (try dsimp only at hSw); go_simp) <;> (first | done | with_reducible rfl | rfl)
        try simp only [Act.put, List.setIfInBounds_toArray, List.set_cons_zero, List.set_cons_succ]
        refine wpAnyH_ready (rs := [8, 13]) (by kernel_rfl) (by simp) ?_
        refine AllReadyH.cons (o := { dst := some 38, op := _, type := _, pos := _, after := _, guard := _ }) rfl (fun K hK => ?_) (AllReadyH.cons (o := { dst := some 43, op := _, type := _, pos := _, after := _, guard := _ }) rfl (fun K hK => ?_) AllReadyH.nil)
        · go_simp
          refine hK.out _ _ trivial (fun hHeld => ?_)
          clear hK K
          try simp only [Act.put, List.setIfInBounds_toArray, List.set_cons_zero, List.set_cons_succ]
          refine wpAnyH_ready (rs := [13]) (by kernel_rfl) (by simp) ?_
          refine AllReadyH.cons (o := { dst := some 43, op := _, type := _, pos := _, after := _, guard := _ }) rfl (fun K hK => ?_) AllReadyH.nil
          go_simp
          refine hK.out _ _ trivial (fun hHeld => ?_)
          clear hK K
          try simp only [Act.put, List.setIfInBounds_toArray, List.set_cons_zero, List.set_cons_succ]
          refine wpAnyH_take (i := 14) (oi := { dst := some 44, op := _, type := _, pos := _, after := _, guard := _ }) (v := ?_) rfl (by kernel_rfl) (by kernel_rfl) (by kernel_rfl) (fun _ _ _ h => h) (Or.inl ⟨by rfl, ?_⟩) trivial ?_
          rotate_left
          · (intro w hSw; (try dsimp only at hSw); go_simp) <;> (first | done | with_reducible rfl | rfl)
          try simp only [Act.put, List.setIfInBounds_toArray, List.set_cons_zero, List.set_cons_succ]
          refine wpAnyH_take (i := 15) (oi := { dst := some 45, op := _, type := _, pos := _, after := _, guard := _ }) (v := ?_) rfl (by kernel_rfl) (by kernel_rfl) (by kernel_rfl) (fun _ _ _ h => h) (Or.inl ⟨by rfl, ?_⟩) trivial ?_
          rotate_left
          · (intro w hSw; (try dsimp only at hSw); go_simp) <;> (first | done | with_reducible rfl | rfl)
          try simp only [Act.put, List.setIfInBounds_toArray, List.set_cons_zero, List.set_cons_succ]
          refine wpAnyH_ready (rs := [16]) (by kernel_rfl) (by simp) ?_
          refine AllReadyH.cons (o := { dst := none, op := _, type := _, pos := _, after := _, guard := _ }) rfl (fun K hK => ?_) AllReadyH.nil
          go_simp
          refine hK.out _ _ trivial (fun hHeld => ?_)
          clear hK K
          try simp only [Act.put, List.setIfInBounds_toArray, List.set_cons_zero, List.set_cons_succ]
          refine wpAnyH_take (i := 17) (oi := { dst := some 46, op := _, type := _, pos := _, after := _, guard := _ }) (v := ?_) rfl (by kernel_rfl) (by kernel_rfl) (by kernel_rfl) (fun _ _ _ h => h) (Or.inl ⟨by rfl, ?_⟩) trivial ?_
          rotate_left
          · (intro w hSw; (try dsimp only at hSw); go_simp) <;> (first | done | with_reducible rfl | rfl)
          try simp only [Act.put, List.setIfInBounds_toArray, List.set_cons_zero, List.set_cons_succ]
          refine wpAnyH_take (i := 18) (oi := { dst := some 47, op := _, type := _, pos := _, after := _, guard := _ }) (v := ?_) rfl (by kernel_rfl) (by kernel_rfl) (by kernel_rfl) (fun _ _ _ h => h) (Or.inl ⟨by rfl, ?_⟩) trivial ?_
          rotate_left
          · (intro w hSw; (try dsimp only at hSw); go_simp) <;> (first | done | with_reducible rfl | rfl)
          try simp only [Act.put, List.setIfInBounds_toArray, List.set_cons_zero, List.set_cons_succ]
          refine wpAnyH_ready (rs := [19]) (by kernel_rfl) (by simp) ?_
          refine AllReadyH.cons (o := { dst := none, op := _, type := _, pos := _, after := _, guard := _ }) rfl (fun K hK => ?_) AllReadyH.nil
          go_simp
          refine hK.out _ _ trivial (fun hHeld => ?_)
          clear hK K
          try simp only [Act.put, List.setIfInBounds_toArray, List.set_cons_zero, List.set_cons_succ]
          refine wpAnyH_done (by kernel_rfl) ?_ _
          refine NoPanic.normal ?_
          have hre : (((wd.setCell ⟨g, i * 3, none⟩ (.int .i64 xk)).setCell ⟨g, k * 3, none⟩ (.int .i64 xi))).ownsRow w1.heap.size 42 3 (.slice (some ⟨g, 0, none⟩) n cc) n ((exZ z i k).map (Value.int .i64)) := by
            rw [exZ_map, show shOp z k = xk from HXK.out.symm, show shOp z i = xi from HXI.out.symm]
            exact q1
          have hEe : Ext w1 ((wd.setCell ⟨g, i * 3, none⟩ (.int .i64 xk)).setCell ⟨g, k * 3, none⟩ (.int .i64 xi)) := (hEd1.setCell hgl _).setCell hgl _
          go_wp2_with (fail)
          refine (sortedShifts_any w1.heap.size _ n (exZ z i k) _ hre HXW.out (by omega) (by omega)).mono ?_
          rintro e w9 ⟨v9, rfl, hr9, w8, hg8, hb9⟩
          have hEz : Ext w w9 := hb1.trans ((hEe.of_grownAt hg8 (fun q hq => by have hq2 : g = q := by simpa [Value.ownBlock] using hq
                                                                                omega)).trans hb9)
          go_wp2_with (fail)
          go_ret2
          rw [HQ2.out, HL2.out]
          exact ⟨_, rfl, row_mono hr9 hb1.size, hEz⟩
        · go_simp
          refine hK.out _ _ trivial (fun hHeld => ?_)
          clear hK K
          try simp only [Act.put, List.setIfInBounds_toArray, List.set_cons_zero, List.set_cons_succ]
          refine wpAnyH_ready (rs := [8]) (by kernel_rfl) (by simp) ?_
          refine AllReadyH.cons (o := { dst := some 38, op := _, type := _, pos := _, after := _, guard := _ }) rfl (fun K hK => ?_) AllReadyH.nil
          go_simp
          refine hK.out _ _ trivial (fun hHeld => ?_)
          clear hK K
          try simp only [Act.put, List.setIfInBounds_toArray, List.set_cons_zero, List.set_cons_succ]
          refine wpAnyH_take (i := 14) (oi := { dst := some 44, op := _, type := _, pos := _, after := _, guard := _ }) (v := ?_) rfl (by kernel_rfl) (by kernel_rfl) (by kernel_rfl) (fun _ _ _ h => h) (Or.inl ⟨by rfl, ?_⟩) trivial ?_
          rotate_left
          · (intro w hSw; (try dsimp only at hSw); go_simp) <;> (first | done | with_reducible rfl | rfl)
          try simp only [Act.put, List.setIfInBounds_toArray, List.set_cons_zero, List.set_cons_succ]
          refine wpAnyH_take (i := 15) (oi := { dst := some 45, op := _, type := _, pos := _, after := _, guard := _ }) (v := ?_) rfl (by kernel_rfl) (by kernel_rfl) (by kernel_rfl) (fun _ _ _ h => h) (Or.inl ⟨by rfl, ?_⟩) trivial ?_
          rotate_left
          · (intro w hSw; (try dsimp only at hSw); go_simp) <;> (first | done | with_reducible rfl | rfl)
          try simp only [Act.put, List.setIfInBounds_toArray, List.set_cons_zero, List.set_cons_succ]
          refine wpAnyH_ready (rs := [16]) (by kernel_rfl) (by simp) ?_
          refine AllReadyH.cons (o := { dst := none, op := _, type := _, pos := _, after := _, guard := _ }) rfl (fun K hK => ?_) AllReadyH.nil
          go_simp
          refine hK.out _ _ trivial (fun hHeld => ?_)
          clear hK K
          try simp only [Act.put, List.setIfInBounds_toArray, List.set_cons_zero, List.set_cons_succ]
          refine wpAnyH_take (i := 17) (oi := { dst := some 46, op := _, type := _, pos := _, after := _, guard := _ }) (v := ?_) rfl (by kernel_rfl) (by kernel_rfl) (by kernel_rfl) (fun _ _ _ h => h) (Or.inl ⟨by rfl, ?_⟩) trivial ?_
          rotate_left
          · (intro w hSw; (try dsimp only at hSw); go_simp) <;> (first | done | with_reducible rfl | rfl)
          try simp only [Act.put, List.setIfInBounds_toArray, List.set_cons_zero, List.set_cons_succ]
          refine wpAnyH_take (i := 18) (oi := { dst := some 47, op := _, type := _, pos := _, after := _, guard := _ }) (v := ?_) rfl (by kernel_rfl) (by kernel_rfl) (by kernel_rfl) (fun _ _ _ h => h) (Or.inl ⟨by rfl, ?_⟩) trivial ?_
          rotate_left
          · (intro w hSw; (try dsimp only at hSw); go_simp) <;> (first | done | with_reducible rfl | rfl)
          try simp only [Act.put, List.setIfInBounds_toArray, List.set_cons_zero, List.set_cons_succ]
          refine wpAnyH_ready (rs := [19]) (by kernel_rfl) (by simp) ?_
          refine AllReadyH.cons (o := { dst := none, op := _, type := _, pos := _, after := _, guard := _ }) rfl (fun K hK => ?_) AllReadyH.nil
          go_simp
          refine hK.out _ _ trivial (fun hHeld => ?_)
          clear hK K
          try simp only [Act.put, List.setIfInBounds_toArray, List.set_cons_zero, List.set_cons_succ]
          refine wpAnyH_done (by kernel_rfl) ?_ _
          refine NoPanic.normal ?_
          have hre : (((wd.setCell ⟨g, i * 3, none⟩ (.int .i64 xk)).setCell ⟨g, k * 3, none⟩ (.int .i64 xi))).ownsRow w1.heap.size 42 3 (.slice (some ⟨g, 0, none⟩) n cc) n ((exZ z i k).map (Value.int .i64)) := by
            rw [exZ_map, show shOp z k = xk from HXK.out.symm, show shOp z i = xi from HXI.out.symm]
            exact q1
          have hEe : Ext w1 ((wd.setCell ⟨g, i * 3, none⟩ (.int .i64 xk)).setCell ⟨g, k * 3, none⟩ (.int .i64 xi)) := (hEd1.setCell hgl _).setCell hgl _
          go_wp2_with (fail)
          refine (sortedShifts_any w1.heap.size _ n (exZ z i k) _ hre HXW.out (by omega) (by omega)).mono ?_
          rintro e w9 ⟨v9, rfl, hr9, w8, hg8, hb9⟩
          have hEz : Ext w w9 := hb1.trans ((hEe.of_grownAt hg8 (fun q hq => by have hq2 : g = q := by simpa [Value.ownBlock] using hq
                                                                                omega)).trans hb9)
          go_wp2_with (fail)
          go_ret2
          rw [HQ2.out, HL2.out]
          exact ⟨_, rfl, row_mono hr9 hb1.size, hEz⟩


set_option maxRecDepth 100000 in
set_option maxHeartbeats 4000000 in
theorem sExchangeShifts_any (v : Value) (n : Nat) (z : List Int) (i k : Int) (w : World) (h : IntRow .i64 3 w v n z) :
    Calls Try.prog 9 #[v, .int .i64 i, .int .i64 k] w fun e w' => ∃ v', e = .returned (.tuple #[v', .bool (exO z n i k)]) ∧ w'.ownsRow w.heap.size 42 3 v' ((exL z n i k).length / 3) ((exL z n i k).map (Value.int .i64)) ∧ Ext w w' := by
  obtain ⟨i0, hi0, hz0, hz1, hz2⟩ := info_parts info_Shift
  have hh := hid h
  obtain ⟨hl, hm, hwf, a, c, rfl, hnc, hcm, hcell⟩ := h
  have hn9 : n ≤ 9223372036854775807 := by unfold maxLen at hm; omega
  have HW := hid hwf
  clear hwf hm
  obtain ⟨Q, hQ⟩ : ∃ q, q = exO z n i k := ⟨_, rfl⟩
  obtain ⟨L, hLe⟩ : ∃ l, l = exL z n i k := ⟨_, rfl⟩
  rw [← hQ, ← hLe]
  have HLE := hid hLe
  have HQQ := hid hQ
  clear hQ hLe
  cases h0 : (okSs z n && inR i 0 ((n : Int) - 1)) with
  | false =>
    have H0 := hid h0
    have HC := hid (show exC z n i k = false by unfold exC; rw [ex_swap]; simp [H0.out])
    have HQ2 := hid (show Q = false by rw [HQQ.out]; unfold exO; rw [HC.out]; rfl)
    have HL2 := hid (show L = [] by rw [HLE.out]; unfold exL; rw [HC.out]; rfl)
    clear h0
    go_enter Try.func9, Try.ntmps9
    go_wp2_with (fail)
    refine (shHas_any _ n z i _ (hh.out.ext (by repeat (first | exact Ext.refl _ | assumption | refine Ext.alloc ?_ _ | refine Ext.drew ?_ | refine Ext.drewN ?_ _ | refine Ext.setCell ?_ (by first | exact Nat.le_refl _ | (simp; done) | (dsimp only; omega) | (simp only [World.size_alloc, World.size_setCell]; omega)) _ | refine Ext.trans ?_ (by assumption))))).mono ?_
    rw [H0.out]
    rintro e w1 ⟨rfl, hb1⟩
    go_wp2_with (fail)
    go_ret2
    rw [HQ2.out, HL2.out]
    exact ⟨_, rfl, World.ownsRow_nil _ _ _ _, (by repeat (first | exact Ext.refl _ | assumption | refine Ext.alloc ?_ _ | refine Ext.drew ?_ | refine Ext.drewN ?_ _ | refine Ext.setCell ?_ (by first | exact Nat.le_refl _ | (simp; done) | (dsimp only; omega) | (simp only [World.size_alloc, World.size_setCell]; omega)) _ | refine Ext.trans ?_ (by assumption)))⟩
  | true =>
    have H0 := hid h0
    clear h0
    cases h1 : (okSs z n && inR k 0 ((n : Int) - 1)) with
    | false =>
      have H1 := hid h1
      have HC := hid (show exC z n i k = false by unfold exC; rw [ex_swap]; simp [H0.out, H1.out])
      have HQ2 := hid (show Q = false by rw [HQQ.out]; unfold exO; rw [HC.out]; rfl)
      have HL2 := hid (show L = [] by rw [HLE.out]; unfold exL; rw [HC.out]; rfl)
      clear h1
      go_enter Try.func9, Try.ntmps9
      go_wp2_with (fail)
      refine (shHas_any _ n z i _ (hh.out.ext (by repeat (first | exact Ext.refl _ | assumption | refine Ext.alloc ?_ _ | refine Ext.drew ?_ | refine Ext.drewN ?_ _ | refine Ext.setCell ?_ (by first | exact Nat.le_refl _ | (simp; done) | (dsimp only; omega) | (simp only [World.size_alloc, World.size_setCell]; omega)) _ | refine Ext.trans ?_ (by assumption))))).mono ?_
      rw [H0.out]
      rintro e w1 ⟨rfl, hb1⟩
      go_wp2_with (fail)
      refine (shHas_any _ n z k _ (hh.out.ext (by repeat (first | exact Ext.refl _ | assumption | refine Ext.alloc ?_ _ | refine Ext.drew ?_ | refine Ext.drewN ?_ _ | refine Ext.setCell ?_ (by first | exact Nat.le_refl _ | (simp; done) | (dsimp only; omega) | (simp only [World.size_alloc, World.size_setCell]; omega)) _ | refine Ext.trans ?_ (by assumption))))).mono ?_
      rw [H1.out]
      rintro e w2 ⟨rfl, hb2⟩
      go_wp2_with (fail)
      go_ret2
      rw [HQ2.out, HL2.out]
      exact ⟨_, rfl, World.ownsRow_nil _ _ _ _, (by repeat (first | exact Ext.refl _ | assumption | refine Ext.alloc ?_ _ | refine Ext.drew ?_ | refine Ext.drewN ?_ _ | refine Ext.setCell ?_ (by first | exact Nat.le_refl _ | (simp; done) | (dsimp only; omega) | (simp only [World.size_alloc, World.size_setCell]; omega)) _ | refine Ext.trans ?_ (by assumption)))⟩
    | true =>
      have H1 := hid h1
      clear h1
      have HC := hid (show exC z n i k = true by unfold exC; rw [ex_swap]; simp [H0.out, H1.out])
      obtain ⟨hok, hn60, ⟨hi1, hi2⟩, hk1, hk2⟩ := exC_iff HC.out
      obtain ⟨i, rfl⟩ := Int.eq_ofNat_of_zero_le hi1
      obtain ⟨k, rfl⟩ := Int.eq_ofNat_of_zero_le hk1
      have hin : i < n := by omega
      have hkn : k < n := by omega
      have HQ2 := hid (show Q = soO (exZ z i k) n by rw [HQQ.out]; unfold exO; rw [HC.out]; rfl)
      have HL2 := hid (show L = soL (exZ z i k) n by rw [HLE.out]; unfold exL; rw [HC.out]; rfl)
      have HXW := hid (exZ_wf hl hin hkn HW.out)
      clear hok
      go_enter Try.func9, Try.ntmps9
      go_wp2_with (fail)
      refine (shHas_any _ n z i _ (hh.out.ext (by repeat (first | exact Ext.refl _ | assumption | refine Ext.alloc ?_ _ | refine Ext.drew ?_ | refine Ext.drewN ?_ _ | refine Ext.setCell ?_ (by first | exact Nat.le_refl _ | (simp; done) | (dsimp only; omega) | (simp only [World.size_alloc, World.size_setCell]; omega)) _ | refine Ext.trans ?_ (by assumption))))).mono ?_
      rw [H0.out]
      rintro e w1 ⟨rfl, hb1⟩
      go_wp2_with (fail)
      refine (shHas_any _ n z k _ (hh.out.ext (by repeat (first | exact Ext.refl _ | assumption | refine Ext.alloc ?_ _ | refine Ext.drew ?_ | refine Ext.drewN ?_ _ | refine Ext.setCell ?_ (by first | exact Nat.le_refl _ | (simp; done) | (dsimp only; omega) | (simp only [World.size_alloc, World.size_setCell]; omega)) _ | refine Ext.trans ?_ (by assumption))))).mono ?_
      rw [H1.out]
      rintro e w2 ⟨rfl, hb2⟩
      obtain ⟨b, o, rfl, hb, hc⟩ := hcell.resolve_left (by omega)
      have hE2 : Ext w w2 := hb1.trans hb2
      obtain ⟨xi, hxi⟩ : ∃ x, x = z.getD (i * 3) 0 := ⟨_, rfl⟩
      obtain ⟨xk, hxk⟩ : ∃ x, x = z.getD (k * 3) 0 := ⟨_, rfl⟩
      have ci := hc (i * 3) (by omega)
      have ck := hc (k * 3) (by omega)
      rw [← hxi] at ci
      rw [← hxk] at ck
      have HXI := hid hxi
      have HXK := hid hxk
      have hi3 : (0 : Int) ≤ (i : Int) := Int.natCast_nonneg _
      have hk3 : (0 : Int) ≤ (k : Int) := Int.natCast_nonneg _
      clear hxi hxk hc hcell
      have HCI := hid (fun (W : World) (hW : Ext w W) => show W.cell? ⟨b, o + i * 3, none⟩ = some (.int .i64 xi) ∧ W.cell? ⟨b, o + k * 3, none⟩ = some (.int .i64 xk) from ⟨by rw [(Ext.cells hW).1 _ _ hb]; exact ci, by rw [(Ext.cells hW).1 _ _ hb]; exact ck⟩)
      clear ci ck
      go_wp2_with (first | (at_builtin; refine wpList_src3 rfl (.tmp 19) (.tmp 20) 23 rfl w2.heap.size 42 i0 _ Try.underlying23 hi0 hz0 hz1 hz2 rfl _ 0 [] rfl (row_empty3 _ _) _ n z rfl (hh.out.ext (by repeat (first | exact Ext.refl _ | assumption | refine Ext.alloc ?_ _ | refine Ext.drew ?_ | refine Ext.drewN ?_ _ | refine Ext.setCell ?_ (by first | exact Nat.le_refl _ | (simp; done) | (dsimp only; omega) | (simp only [World.size_alloc, World.size_setCell]; omega)) _ | refine Ext.trans ?_ (by assumption)))) (by omega) (by simp) ?_; intro v3 w3 hr3 hg3; obtain ⟨ac, cc, rfl, hnc2, hcc, hgc⟩ := row_shape hr3; obtain ⟨g, rfl, hgl, hgs⟩ := hgc.resolve_left (by omega); rw [Nat.zero_add, List.nil_append] at hr3; rw [Nat.zero_add] at hnc2; rw [Nat.zero_add]; have hg3' : (w2.alloc (.cells #[] 42)).grownBy w3 (some w2.heap.size) := hg3; have hE3 : Ext w w3 := Ext.of_grownAt ((by repeat (first | exact Ext.refl _ | assumption | refine Ext.alloc ?_ _ | refine Ext.drew ?_ | refine Ext.drewN ?_ _ | refine Ext.setCell ?_ (by first | exact Nat.le_refl _ | (simp; done) | (dsimp only; omega) | (simp only [World.size_alloc, World.size_setCell]; omega)) _ | refine Ext.trans ?_ (by assumption))) : Ext w (w2.alloc (.cells #[] 42))) hg3' (fun q hq => (by have := hE2.size; simp at hq; omega)); obtain ⟨ci, ck⟩ := HCI.out w3 hE3; have fi := hr3.frozenAt (i * 3); have hgw : w.heap.size ≤ g := Nat.le_trans hE2.size hgl; obtain ⟨u1, c1, _⟩ := row_cell hr3 (i * 3) (by omega); have q0 := (hr3.stored (i * 3) (.int .i64 xk)).1; have q1 := (q0.stored (k * 3) (.int .i64 xi)).1; have f2 := q0.frozenAt (k * 3); obtain ⟨u2, c2, _⟩ := row_cell q0 (k * 3) (by omega); have hEd := hE3.setCell (p := ⟨g, i * 3, none⟩) hgw (.int .i64 xk); obtain ⟨ci2, ck2⟩ := HCI.out _ hEd))
      have hre : (((w3.setCell ⟨g, i * 3, none⟩ (.int .i64 xk)).setCell ⟨g, k * 3, none⟩ (.int .i64 xi))).ownsRow w2.heap.size 42 3 (.slice (some ⟨g, 0, none⟩) n cc) n ((exZ z i k).map (Value.int .i64)) := by
        rw [exZ_map, show shOp z k = xk from HXK.out.symm, show shOp z i = xi from HXI.out.symm]
        exact q1
      have hEe : Ext w ((w3.setCell ⟨g, i * 3, none⟩ (.int .i64 xk)).setCell ⟨g, k * 3, none⟩ (.int .i64 xi)) := hEd.setCell hgw _
      refine (shSort_any _ n (exZ z i k) _ (row_ints hre (by unfold maxLen; omega) HXW.out) (by omega)).mono ?_
      rintro e w9 ⟨v9, rfl, hr9, hb9⟩
      have hzz := hEe.size
      go_wp2_with (fail)
      go_ret2
      rw [HQ2.out, HL2.out]
      exact ⟨_, rfl, row_mono hr9 hzz, hEe.trans hb9⟩


end Go.Proofs.Ytijeieacoaopcaa