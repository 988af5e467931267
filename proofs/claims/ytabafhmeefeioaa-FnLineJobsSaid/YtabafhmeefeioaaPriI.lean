/- The chapter of priorities: jobs with another priority, the least priority. No condition. -/
import Derived.Test.YtabafhmeefeioaaPriH
namespace Go.Proofs.Ytabafhmeefeioaa
open Go.RowKit
set_option linter.unusedSimpArgs false
set_option linter.unusedVariables false

theorem news_of {w : World} {b o n k : Nat} {z : List Int} (hl : z.length = n * k) (hc : ∀ j, j < n * k → w.cell? ⟨b, o + j, none⟩ = some (.int .i64 (z.getD j 0))) :
    ∀ j u, (z.map (Value.int .i64))[j]? = some u → w.cell? ((⟨b, o, none⟩ : Addr).add j) = some u := by
  intro j u hj
  have hlt : j < z.length := by
    have := (List.getElem?_eq_some_iff.1 hj).1
    simpa using this
  rw [Go.WideShapes.add_plain, hc j (by omega), ← map_getD hlt]
  exact hj
theorem one_cells (z : List Int) : ∀ u ∈ z.map (Value.int .i64), u.oneCell' = true := by
  intro u hu
  simp only [List.mem_map] at hu
  obtain ⟨x, _, rfl⟩ := hu
  rfl

/-- the jobs in which job i has another priority -/
def setP (z : List Int) (i : Nat) (p : Int) : List Int := z.set (i * 3 + 2) p
theorem setP_at (z : List Int) (i : Nat) (p : Int) (j : Nat) : jAt (setP z i p) j = jAt z j ∧ jLen (setP z i p) j = jLen z j := by
  unfold jAt jLen setP
  simp only [List.getD_eq_getElem?_getD, List.getElem?_set]
  rw [if_neg (by omega), if_neg (by omega)]
  exact ⟨rfl, rfl⟩
theorem setP_pr (z : List Int) (i : Nat) (p : Int) (hi : i * 3 + 2 < z.length) (j : Nat) : jPr (setP z i p) j = if j = i then p else jPr z j := by
  unfold jPr setP
  simp only [List.getD_eq_getElem?_getD, List.getElem?_set]
  by_cases e : j = i
  · subst e
    rw [if_pos rfl, if_pos hi, if_pos rfl]
    rfl
  · rw [if_neg (by omega), if_neg e]
theorem setP_ok {z : List Int} {n i : Nat} {p : Int} (hl : z.length = n * 3) (h : okJs z n = true) (hi : i < n) (hp0 : 0 ≤ p) (hp1 : p ≤ 3) : okJs (setP z i p) n = true := by
  unfold okJs
  rw [Bool.and_eq_true]
  refine ⟨by simpa using okJs_n h, allB_t fun j hj => ?_⟩
  have hb := job_bd h j hj
  unfold jobAt jobB
  rw [(setP_at z i p j).1, (setP_at z i p j).2, setP_pr z i p (by omega) j, Bool.and_eq_true, Bool.and_eq_true, inR_iff, inR_iff, inR_iff]
  by_cases e : j = i
  · rw [if_pos e]; omega
  · rw [if_neg e]; omega
theorem setP_len (z : List Int) (i : Nat) (p : Int) : (setP z i p).length = z.length := by simp [setP]
theorem setP_wf {z : List Int} {i : Nat} {p : Int} (h : ∀ x ∈ z, (Lit.int .i64 x).wf = true) (hp0 : 0 ≤ p) (hp1 : p ≤ 3) : ∀ x ∈ setP z i p, (Lit.int .i64 x).wf = true := by
  intro x hx
  rcases List.mem_or_eq_of_mem_set hx with hx | rfl
  · exact h x hx
  · exact small_wf (by omega) (by omega)

theorem row_form {w : World} {base : Nat} {e : TypeId} {size : Nat} {v : Value} {n : Nat} {xs : List Value} (h : w.ownsRow base e size v n xs) (hn : 0 < n) : ∃ g c, v = .slice (some ⟨g, 0, none⟩) n c := by
  rcases h.2 with ⟨_, h0⟩ | ⟨g, cap, _, h1, _⟩
  · omega
  · exact ⟨g, cap, h1⟩

def wpC (z : List Int) (n : Nat) (i p : Int) : Bool := okJs z n && inR i 0 ((n : Int) - 1) && inR p 0 3
def wpV (z : List Int) (n : Nat) (i p : Int) : List Int := if wpC z n i p = true then setP z i.toNat p else []
def lpC (z : List Int) (n : Nat) (i b : Int) : Bool := okJs z n && inR i 0 ((n : Int) - 1) && inR b 0 700
/-- the job is finished at b or before with priority p -/
def doneBy (z : List Int) (n i : Nat) (b : Int) (p : Nat) : Bool := decide ((finJ (setP z i (p : Int)) n).getD i 0 ≤ b)
def lpI (z : List Int) (n : Nat) (i b : Int) : Int := if lpC z n i b = true then idxOf (doneBy z n i.toNat b) 4 else -1
def lpV (z : List Int) (n : Nat) (i b : Int) : Int := if 0 ≤ lpI z n i b then lpI z n i b else 0
def lpB (z : List Int) (n : Nat) (i b : Int) : Bool := decide (0 ≤ lpI z n i b)
theorem lp_none {z : List Int} {n : Nat} {i b : Int} (h : lpI z n i b = -1) : lpV z n i b = 0 ∧ lpB z n i b = false := by
  unfold lpV lpB
  rw [h]
  exact ⟨rfl, rfl⟩
theorem lp_some {z : List Int} {n : Nat} {i b : Int} {p : Nat} (h : lpI z n i b = (p : Int)) : lpV z n i b = p ∧ lpB z n i b = true := by
  unfold lpV lpB
  rw [h, if_pos (by omega)]
  exact ⟨rfl, by simp⟩


set_option maxHeartbeats 800000 in
theorem sWith_any (v : Value) (n : Nat) (z : List Int) (i : Nat) (p : Int) (w : World) (h : IntRow .i64 3 w v n z) (hin : i < n) (hn2 : n ≤ 12) :
    Calls Try.prog 61 #[v, .int .i64 (i : Int), .int .i64 p] w fun e w' => ∃ v', e = .returned v' ∧ w'.ownsRow w.heap.size 53 3 v' n ((setP z i p).map (Value.int .i64)) ∧ Ext w w' := by
  obtain ⟨i0, hi, hz0, hz1, hz2⟩ := info_parts info_LineJob
  have hh := h
  obtain ⟨hl, hm, hwf, a, c, rfl, hnc, hcm, hcell⟩ := h
  obtain ⟨b, o, rfl, hb, hc⟩ := hcell.resolve_left (by omega)
  have HC := hid hc
  clear hc hcell hwf
  go_enter Try.func61, Try.ntmps61
  go_wp2_with (first | (at_builtin; refine wpList_append_grows _ rfl _ _ 25 rfl 53 i0 _ _ _ Try.underlying25 hi hz0 hz1 hz2 rfl (by decide) _ 0 0 [] rfl (fun h => by cases h) rfl (fun _ _ j u hj => by simp at hj) _ n _ (z.map (Value.int .i64)) rfl (by simpa using hl) (news_of hl (fun j hj => by rw [((Ext.cells ((Ext.refl w).alloc _)).1 _ _ hb)]; exact HC.out j hj)) (one_cells z) (by omega) (by unfold maxLen; omega) (by omega) ?_; intro v' w3 hr3 hg3; rw [Nat.zero_add, List.nil_append] at hr3; replace hr3 := row_mono (base' := w.heap.size) hr3 (by simp); have hE3 : Ext w w3 := Ext.of_grown (by repeat (first | exact Ext.refl _ | assumption | refine Ext.alloc ?_ _ | refine Ext.drew ?_ | refine Ext.drewN ?_ _ | refine Ext.setCell ?_ (by first | exact Nat.le_refl _ | (simp; done) | (dsimp only; omega) | (simp only [World.size_alloc, World.size_setCell]; omega)) _ | refine Ext.trans ?_ (by assumption))) hg3; obtain ⟨g, c3, rfl⟩ := row_form hr3 (by omega); obtain ⟨u0, s0, d0⟩ := row_cell hr3 (i * 3 + 2) (by omega); have f0 := hr3.frozenAt (i * 3 + 2)))
  go_ret
  refine ⟨_, rfl, ?_, hE3.setCell (by have := (hr3.lt g rfl).1; simpa using this) _⟩
  unfold setP
  rw [List.map_set]
  exact (hr3.stored (i * 3 + 2) (.int .i64 p)).1


set_option maxHeartbeats 800000 in
theorem clone_any (v : Value) (n : Nat) (z : List Int) (w : World) (h : IntRow .i64 3 w v n z) (hn : 0 < n) (hn2 : n ≤ 1048576) :
    Calls Try.prog 79 #[v] w fun e w' => ∃ v', e = .returned v' ∧ w'.ownsRow w.heap.size 53 3 v' n (z.map (Value.int .i64)) ∧ Ext w w' := by
  obtain ⟨i0, hi, hz0, hz1, hz2⟩ := info_parts info_LineJob
  obtain ⟨hl, hm, hwf, a, c, rfl, hnc, hcm, hcell⟩ := h
  obtain ⟨b, o, rfl, hb, hc⟩ := hcell.resolve_left (by omega)
  have HC := hid hc
  have hnil := fun (wx : World) => Lib.run_eql_slice_nil (P := Try.prog) wx 25 53 (some ⟨b, o, none⟩) n c 0 0 Try.underlying25
  clear hc hcell hwf
  go_enter Try.func79, Try.ntmps79
  go_wp2_with (first | (at_builtin; refine wpList_append_grows _ rfl _ _ 25 rfl 53 i0 _ _ _ Try.underlying25 hi hz0 hz1 hz2 rfl (by decide) _ 0 0 [] rfl (fun h => by cases h) rfl (fun _ _ j u hj => by simp at hj) _ n _ (z.map (Value.int .i64)) rfl (by simpa using hl) (news_of hl (fun j hj => by rw [((Ext.cells ((Ext.refl w).alloc _)).1 _ _ hb)]; exact HC.out j hj)) (one_cells z) (by omega) (by unfold maxLen; omega) (by omega) ?_; intro v' w3 hr3 hg3))
  go_ret
  refine ⟨_, rfl, ?_, Ext.of_grown (by repeat (first | exact Ext.refl _ | assumption | refine Ext.alloc ?_ _ | refine Ext.drew ?_ | refine Ext.drewN ?_ _ | refine Ext.setCell ?_ (by first | exact Nat.le_refl _ | (simp; done) | (dsimp only; omega) | (simp only [World.size_alloc, World.size_setCell]; omega)) _ | refine Ext.trans ?_ (by assumption))) hg3⟩
  rw [Nat.zero_add, List.nil_append] at hr3
  exact row_mono hr3 (by simp)


set_option maxHeartbeats 800000 in
theorem iWith_any (v : Value) (n : Nat) (z : List Int) (i : Nat) (p : Int) (w : World) (h : IntRow .i64 3 w v n z) (hin : i < n) (hn2 : n ≤ 12) :
    Calls Try.prog 62 #[v, .int .i64 (i : Int), .int .i64 p] w fun e w' => ∃ v', e = .returned v' ∧ w'.ownsRow w.heap.size 53 3 v' n ((setP z i p).map (Value.int .i64)) ∧ Ext w w' := by
  obtain ⟨i0, hi, hz0, hz1, hz2⟩ := info_parts info_LineJob
  have hh := h
  obtain ⟨hl, hm, hwf, a, c, rfl, hnc, hcm, hcell⟩ := h
  obtain ⟨b, o, rfl, hb, hc⟩ := hcell.resolve_left (by omega)
  have HC := hid hc
  clear hc hcell hwf
  go_enter Try.func62, Try.ntmps62
  go_wp2_with (fail)
  refine (clone_any _ n z _ hh (by omega) (by omega)).mono ?_
  rintro e w3 ⟨v', rfl, hr3, hE3⟩
  obtain ⟨g, c3, rfl⟩ := row_form hr3 (by omega)
  obtain ⟨u0, s0, d0⟩ := row_cell hr3 (i * 3 + 2) (by omega)
  have f0 := hr3.frozenAt (i * 3 + 2)
  go_wp2_with (fail)
  go_ret
  refine ⟨_, rfl, ?_, hE3.setCell (by have := (hr3.lt g rfl).1; simpa using this) _⟩
  unfold setP
  rw [List.map_set]
  exact (hr3.stored (i * 3 + 2) (.int .i64 p)).1


set_option maxHeartbeats 400000 in
theorem prTick_any (t : Int) (w : World) : Calls Try.prog 63 #[.int .i64 t] w fun e w' => e = .returned (.bool (inR t 0 700)) ∧ w = w' := by
  go_enter Try.func63, Try.ntmps63
  go_wp2_with (fail)
  refine (l1In_any _ _ _ _).mono ?_
  rintro e w' ⟨rfl, rfl⟩
  go_wp2_with (fail)
  go_ret
  exact ⟨rfl, rfl⟩

set_option maxHeartbeats 400000 in
theorem prHas_any (v : Value) (n : Nat) (z : List Int) (i : Int) (w : World) (h : IntRow .i64 3 w v n z) :
    Calls Try.prog 59 #[v, .int .i64 i] w fun e w' => e = .returned (.bool (okJs z n && inR i 0 ((n : Int) - 1))) ∧ Ext w w' := by
  have hh := h
  obtain ⟨hl, hm, hwf, a, c, rfl, hnc, hcm, _⟩ := h
  unfold maxLen at hcm
  clear hwf
  cases hok : okJs z n with
  | true =>
    have HOK := hid hok
    rw [Bool.true_and]
    clear hok
    go_enter Try.func59, Try.ntmps59
    go_wp2_with (fail)
    refine (prGood_any _ n z _ hh).mono ?_
    rw [HOK.out]
    rintro e w1 ⟨rfl, hb1⟩
    go_wp2_with (fail)
    refine (l1In_any _ _ _ _).mono ?_
    rintro e w' ⟨rfl, rfl⟩
    go_wp2_with (fail)
    go_ret
    exact ⟨rfl, hb1⟩
  | false =>
    have HOK := hid hok
    rw [Bool.false_and]
    clear hok
    go_enter Try.func59, Try.ntmps59
    go_wp2_with (fail)
    refine (prGood_any _ n z _ hh).mono ?_
    rw [HOK.out]
    rintro e w1 ⟨rfl, hb1⟩
    go_wp2_with (fail)
    go_ret
    exact ⟨rfl, hb1⟩

end Go.Proofs.Ytabafhmeefeioaa