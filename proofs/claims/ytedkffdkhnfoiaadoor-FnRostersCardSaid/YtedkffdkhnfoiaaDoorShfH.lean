/- The chapter of shifts: open hours. No condition. -/
import Derived.Test.YtedkffdkhnfoiaaDoorShfE
import Derived.Test.YtedkffdkhnfoiaaDoorConvLists
namespace Go.Proofs.YtedkffdkhnfoiaaDoor
open Go.RowKit
set_option linter.unusedSimpArgs false
set_option linter.unusedVariables false

/-- ranges of hours: what is laid down after h hours (B: few are on duty) -/
def opZ (B : Nat → Bool) : Nat → List (List Int)
  | 0 => []
  | h + 1 =>
    if B h = true then
      (if 0 < (opZ B h).length ∧ ((opZ B h).getD ((opZ B h).length - 1) []).getD 1 0 = (h : Int) then (opZ B h).set ((opZ B h).length - 1) [((opZ B h).getD ((opZ B h).length - 1) []).getD 0 0, (h : Int) + 1]
       else opZ B h ++ [[(h : Int), (h : Int) + 1]])
    else opZ B h
theorem opZ_inv (B : Nat → Bool) : ∀ h, (opZ B h).length ≤ h ∧ (∀ x ∈ opZ B h, ∃ a b : Int, x = [a, b] ∧ 0 ≤ a ∧ a < b ∧ b ≤ h) ∧
    (((0 < (opZ B h).length ∧ ((opZ B h).getD ((opZ B h).length - 1) []).getD 1 0 = (h : Int))) ↔ (0 < h ∧ B (h - 1) = true))
  | 0 => by simp [opZ]
  | h + 1 => by
    obtain ⟨h1, h2, h3⟩ := opZ_inv B h
    rw [opZ]
    by_cases c : B h = true
    · rw [if_pos c]
      by_cases d : 0 < (opZ B h).length ∧ ((opZ B h).getD ((opZ B h).length - 1) []).getD 1 0 = (h : Int)
      · rw [if_pos d]
        obtain ⟨a, b, e, ha, hab, hb⟩ := h2 _ (show (opZ B h).getD ((opZ B h).length - 1) [] ∈ opZ B h by
          rw [List.getD_eq_getElem?_getD, List.getElem?_eq_getElem (by omega)]; exact List.getElem_mem _)
        rw [e]
        refine ⟨by rw [List.length_set]; omega, fun x hx => ?_, ⟨fun _ => ⟨by omega, by simpa using c⟩, fun _ => ⟨by rw [List.length_set]; exact d.1, ?_⟩⟩⟩
        · rcases List.mem_or_eq_of_mem_set hx with hx | rfl
          · obtain ⟨a, b, e, h4⟩ := h2 x hx; exact ⟨a, b, e, by omega⟩
          · exact ⟨a, _, rfl, ha, by omega, by omega⟩
        · rw [List.length_set, getD_set_same (by omega)]
          simp
      · rw [if_neg d]
        refine ⟨by simp; omega, fun x hx => ?_, ⟨fun _ => ⟨by omega, by simpa using c⟩, fun _ => ⟨by simp, ?_⟩⟩⟩
        · rcases List.mem_append.1 hx with hx | hx
          · obtain ⟨a, b, e, h4⟩ := h2 x hx; exact ⟨a, b, e, by omega⟩
          · simp only [List.mem_singleton] at hx; subst hx; exact ⟨_, _, rfl, by omega, by omega, by omega⟩
        · rw [getD_append_last]; simp
    · rw [if_neg c]
      refine ⟨by omega, fun x hx => by obtain ⟨a, b, e, h4⟩ := h2 x hx; exact ⟨a, b, e, by omega⟩, ⟨fun hh => ?_, fun hh => absurd (by simpa using hh.2) c⟩⟩
      obtain ⟨a, b, e, ha, hab, hb⟩ := h2 _ (show (opZ B h).getD ((opZ B h).length - 1) [] ∈ opZ B h by
          rw [List.getD_eq_getElem?_getD, List.getElem?_eq_getElem (by omega)]; exact List.getElem_mem _)
      rw [e] at hh
      simp at hh
      omega


/-- few are on duty in hour h -/
def few (z : List Int) (n : Nat) (p : Int) (h : Nat) : Bool := decide ((cntH z (h : Int) n : Int) < p)
def opC (z : List Int) (n : Nat) (p : Int) : Bool := okSs z n && inR p 1 30
def opV (z : List Int) (n : Nat) (p : Int) : List (List Int) := if opC z n p = true then opZ (few z n p) 168 else []
theorem opV_inv (z : List Int) (n : Nat) (p : Int) : (opV z n p).length ≤ 1000 ∧ ∀ x ∈ opV z n p, ∀ y ∈ x, (Lit.int .i64 y).wf = true := by
  unfold opV
  by_cases h : opC z n p = true
  · rw [if_pos h]
    obtain ⟨h1, h2, _⟩ := opZ_inv (few z n p) 168
    refine ⟨by omega, fun x hx y hy => ?_⟩
    obtain ⟨a, b, rfl, h3⟩ := h2 x hx
    simp only [List.mem_cons, List.not_mem_nil, or_false] at hy
    rcases hy with rfl | rfl <;> exact small_wf (by omega) (by omega)
  · rw [if_neg h]
    simp

/-- the counts behind k shifts and d hours of the next one -/
def cP (z : List Int) (k : Nat) (d : Nat) : List Int := (List.range 168).map fun (h : Nat) => (cntH z (h : Int) k : Int) + (if shFr z k ≤ (h : Int) ∧ (h : Int) < shFr z k + d then 1 else 0)
def cL (z : List Int) (k : Nat) : List Int := (List.range 168).map fun (h : Nat) => (cntH z (h : Int) k : Int)
theorem cP_zero (z : List Int) (k : Nat) : cP z k 0 = cL z k := by
  unfold cP cL
  refine List.map_congr_left fun h _ => ?_
  rw [if_neg (by omega)]
  omega
theorem cL_length (z : List Int) (k : Nat) : (cL z k).length = 168 := by simp [cL]
theorem cP_length (z : List Int) (k d : Nat) : (cP z k d).length = 168 := by simp [cP]
theorem cL_getD {z : List Int} {k h : Nat} (hh : h < 168) : (cL z k).getD h 0 = (cntH z (h : Int) k : Int) := by
  simp [cL, List.getD_eq_getElem?_getD, hh]
theorem cP_getD {z : List Int} {k d h : Nat} (hh : h < 168) : (cP z k d).getD h 0 = (cntH z (h : Int) k : Int) + (if shFr z k ≤ (h : Int) ∧ (h : Int) < shFr z k + d then 1 else 0) := by
  simp [cP, List.getD_eq_getElem?_getD, hh]
theorem getD_same {a b : List Int} (hl : a.length = b.length) (h : ∀ j, j < b.length → a.getD j 0 = b.getD j 0) : a = b := by
  apply List.ext_getElem?
  intro j
  by_cases hj : j < b.length
  · have := h j hj
    rw [List.getD_eq_getElem?_getD, List.getD_eq_getElem?_getD, List.getElem?_eq_getElem hj, List.getElem?_eq_getElem (show j < a.length by omega)] at this
    rw [List.getElem?_eq_getElem hj, List.getElem?_eq_getElem (show j < a.length by omega)]
    simpa using this
  · rw [List.getElem?_eq_none (by omega), List.getElem?_eq_none (by omega)]
theorem cP_step {z : List Int} {k d f : Nat} (hf : shFr z k = (f : Int)) (hh : f + d < 168) : cP z k (d + 1) = (cP z k d).set (f + d) ((cntH z ((f + d : Nat) : Int) k : Int) + 1) := by
  refine getD_same (by simp [cP_length]) fun j hj => ?_
  rw [List.length_set, cP_length] at hj
  rw [cP_getD hj]
  by_cases e : f + d = j
  · subst e
    rw [getD_set_same (by rw [cP_length]; exact hj), if_pos (by rw [hf]; omega)]
  · rw [getD_set_other e, cP_getD hj]
    congr 1
    by_cases c : shFr z k ≤ (j : Int) ∧ (j : Int) < shFr z k + d
    · rw [if_pos c, if_pos (by omega)]
    · rw [if_neg c, if_neg (by omega)]
theorem cP_end {z : List Int} {k d : Nat} (hd : shFr z k + (d : Int) = shTo z k) : cP z k d = cL z (k + 1) := by
  refine getD_same (by simp [cP_length, cL_length]) fun j hj => ?_
  rw [cL_length] at hj
  rw [cP_getD hj, cL_getD hj, cntH]
  unfold hasH
  by_cases c : shFr z k ≤ (j : Int) ∧ (j : Int) < shFr z k + d
  · rw [if_pos c, if_pos (by rw [inR_iff]; omega)]
    omega
  · rw [if_neg c, if_neg (by rw [inR_iff]; omega)]
    omega

set_option maxRecDepth 100000 in
theorem arr_index (cs : Array Value) (k : Nat) (y : Int) (hk : k < 168) (hy : cs[k]? = some (.int .i64 y)) (w : World) : (Instr.index 57 (.agg cs) (.int .i64 (k : Int))).run Tryd.prog w = .ok (.int .i64 y) w := by
  have h1 : (0 : Int) ≤ (k : Int) ∧ (k : Int) < 168 := by omega
  simp [Instr.index, run_underlying Tryd.underlying57, asIntOf, part, isAgg, sizeOf, run_underlying Tryd.underlying3, hy, go_sem, hk]
  rw [show k * Tryd.t3.size = k from Nat.mul_one k, hy]
  rfl

set_option maxRecDepth 100000 in
set_option maxHeartbeats 4000000 in
theorem sOpenHours_any (v : Value) (n : Nat) (z : List Int) (p : Int) (w : World) (h : IntRow .i64 3 w v n z) :
    Calls Tryd.prog 7 #[v, .int .i64 p] w fun e w' => ∃ v' gs, e = .returned (.tuple #[v', .bool (opC z n p)]) ∧ Lists w' w.heap.size v' 2 gs (opV z n p) ∧ Ext w w' := by
  cases hok : okSs z n with
  | false =>
    have HOK := hid hok
    have hc : opC z n p = false := by unfold opC; rw [hok]; rfl
    rw [show opV z n p = [] by unfold opV; rw [hc]; rfl, hc]
    clear hok hc
    go_enter Tryd.func7, Tryd.ntmps7
    go_wp2_with (fail)
    refine (shGood_any v n z _ (h.ext (by repeat (first | exact Ext.refl _ | assumption | refine Ext.alloc ?_ _ | refine Ext.drew ?_ | refine Ext.drewN ?_ _ | refine Ext.setCell ?_ (by first | exact Nat.le_refl _ | (simp; done) | (dsimp only; omega) | (simp only [World.size_alloc, World.size_setCell]; omega)) _ | refine Ext.trans ?_ (by assumption))))).mono ?_
    rw [HOK.out]
    rintro e w1 ⟨rfl, hb1⟩
    go_wp2_with (fail)
    go_ret2
    exact ⟨_, [], rfl, Lists.nil _ _ _, (by repeat (first | exact Ext.refl _ | assumption | refine Ext.alloc ?_ _ | refine Ext.drew ?_ | refine Ext.drewN ?_ _ | refine Ext.setCell ?_ (by first | exact Nat.le_refl _ | (simp; done) | (dsimp only; omega) | (simp only [World.size_alloc, World.size_setCell]; omega)) _ | refine Ext.trans ?_ (by assumption)))⟩
  | true =>
    have HOK := hid hok
    cases hp : inR p 1 30 with
    | false =>
      have HP := hid hp
      have hc : opC z n p = false := by unfold opC; rw [hp, Bool.and_false]
      rw [show opV z n p = [] by unfold opV; rw [hc]; rfl, hc]
      clear hok hc hp
      go_enter Tryd.func7, Tryd.ntmps7
      go_wp2_with (fail)
      refine (shGood_any v n z _ (h.ext (by repeat (first | exact Ext.refl _ | assumption | refine Ext.alloc ?_ _ | refine Ext.drew ?_ | refine Ext.drewN ?_ _ | refine Ext.setCell ?_ (by first | exact Nat.le_refl _ | (simp; done) | (dsimp only; omega) | (simp only [World.size_alloc, World.size_setCell]; omega)) _ | refine Ext.trans ?_ (by assumption))))).mono ?_
      rw [HOK.out]
      rintro e w1 ⟨rfl, hb1⟩
      go_wp2_with (go_at_call 33; refine (shOperator_any _ _).mono ?_; rw [HP.out]; rintro e w' ⟨rfl, rfl⟩)
      go_ret2
      exact ⟨_, [], rfl, Lists.nil _ _ _, (by repeat (first | exact Ext.refl _ | assumption | refine Ext.alloc ?_ _ | refine Ext.drew ?_ | refine Ext.drewN ?_ _ | refine Ext.setCell ?_ (by first | exact Nat.le_refl _ | (simp; done) | (dsimp only; omega) | (simp only [World.size_alloc, World.size_setCell]; omega)) _ | refine Ext.trans ?_ (by assumption)))⟩
    | true =>
      have HP := hid hp
      have hc : opC z n p = true := by unfold opC; rw [hok, hp]; rfl
      have HV := hid (show opV z n p = opZ (few z n p) 168 by unfold opV; rw [if_pos hc])
      rw [HV.out, hc]
      obtain ⟨i0, hi, hz0, hz1, hz2⟩ := info_parts info_Ints
      have hn60 := okSs_n hok
      have pb := inR_iff.1 hp
      obtain ⟨pb1, pb2⟩ := pb
      clear hok hc hp
      have hh := h
      obtain ⟨hl, hm, hwf, a, c, rfl, hnc, hcm, hcell⟩ := h
      unfold maxLen at hm
      clear hwf
      go_enter Tryd.func7, Tryd.ntmps7
      go_wp2_with (fail)
      refine (shGood_any _ n z _ (hh.ext (by repeat (first | exact Ext.refl _ | assumption | refine Ext.alloc ?_ _ | refine Ext.drew ?_ | refine Ext.drewN ?_ _ | refine Ext.setCell ?_ (by first | exact Nat.le_refl _ | (simp; done) | (dsimp only; omega) | (simp only [World.size_alloc, World.size_setCell]; omega)) _ | refine Ext.trans ?_ (by assumption))))).mono ?_
      rw [HOK.out]
      rintro e w1 ⟨rfl, hb1⟩
      have hs01 := hb1.size
      go_wp2_with (go_at_call 33; refine (shOperator_any _ _).mono ?_; rw [HP.out]; rintro e w' ⟨rfl, rfl⟩)
      clear hcell
      go_loopw [6, 7] (fun u i wr => ∃ (k : Nat) (gs : List Nat), k ≤ 168 ∧ i = .int .i64 (k : Int) ∧ Lists wr w1.heap.size u 2 gs (opZ (few z n p) k) ∧ Ext w1 wr)
        (fun _ i _ => 168 - (intOf i).toNat)
      case atStart => exact ⟨0, [], Nat.zero_le _, rfl, Lists.nil _ _ _, Ext.refl _⟩
      case round =>
        obtain ⟨k, gs, hk, rfl, hY, hX⟩ := hrel
        by_cases hlt : k < 168
        · have hst : opZ (few z n p) (k + 1) = if few z n p k = true then (if 0 < (opZ (few z n p) k).length ∧ ((opZ (few z n p) k).getD ((opZ (few z n p) k).length - 1) []).getD 1 0 = (k : Int) then (opZ (few z n p) k).set ((opZ (few z n p) k).length - 1) [((opZ (few z n p) k).getD ((opZ (few z n p) k).length - 1) []).getD 0 0, (k : Int) + 1] else opZ (few z n p) k ++ [[(k : Int), (k : Int) + 1]]) else opZ (few z n p) k := rfl
          have oinv := opZ_inv (few z n p) k
          obtain ⟨oi1, oi2, oi3⟩ := oinv
          obtain ⟨Y, hYe⟩ : ∃ Y, Y = opZ (few z n p) k := ⟨_, rfl⟩
          rw [← hYe] at hst oi1 oi3 hY
          have hle := hY.len
          have hgl : gs.length ≤ 168 := by omega
          have HST := hid hst
          have HOI := hid oi3
          have HLE := hid hle
          clear hst oi2 oi3 hYe hle

          obtain ⟨aG, cG, rfl, hnc2, hcm2, hG⟩ := hY.shape
          have HYr := hid hY
          have HXX := hid (hb1.trans hX)
          clear hY
          go_wp2_with (fail)
          refine (shOn_any _ n z (k : Int) _ (hh.ext HXX.out) HOK.out).mono ?_
          rintro e wq ⟨v2, rfl, hr2, hb2⟩
          rw [onL_length HOK.out (k : Int) n (Nat.le_refl _)] at hr2
          obtain ⟨a2, c2, rfl, hq1, hq2, _⟩ := row_shape hr2
          have hcn := cntH_le z (k : Int) n
          obtain ⟨cn, hcn2⟩ : ∃ x, x = cntH z (k : Int) n := ⟨_, rfl⟩
          rw [← hcn2] at hq1 hcn ⊢
          have HCN := hid hcn2
          have HYq := hid (HYr.out.ext hb2)
          have hXq := hX.trans hb2
          have hXqs := hXq.size
          clear hr2 hcn2 hX
          by_cases hfew : (cn : Int) < p
          · have f1 : decide (p ≤ (cn : Int)) = false := decide_eq_false (by omega)
            have HF := hid (show few z n p k = true by unfold few; rw [← HCN.out]; exact decide_eq_true hfew)
            by_cases c2 : gs.length = 0
            · have hrow := HYq.out.row
              have c2b : decide ((0 : Int) < gs.length) = false := decide_eq_false (by omega)
              have c2c : decide (0 < gs.length) = false := decide_eq_false (by omega)
              have HST2 := hid (show opZ (few z n p) (k + 1) = Y ++ [[(k : Int), (k : Int) + 1]] by rw [HST.out, if_pos HF.out, if_neg (fun hh => by have := HLE.out; omega)])
              clear c2 hG
              go_wp2_with (first | (at_builtin; refine wpList_append_own _ rfl _ _ 26 rfl w1.heap.size 31 i0 _ _ _ Tryd.underlying26 hi hz0 hz1 hz2 rfl (by decide) _ _ _ rfl ((hrow.alloc _).alloc _) _ 1 1 [.slice (some ⟨wq.heap.size, 0, none⟩) 2 2] rfl rfl (cell_new1 _ _ _ _ (by simp)) (fun x hx => by simp at hx; subst hx; rfl) (by unfold maxLen; omega) (by omega) (by simp; omega) ?_; intro v' w3 hr3 hg3 hnil'))
              go_roundw
              case rel =>
                refine ⟨k + 1, gs ++ [wq.heap.size], by omega, by go_num, ?_, ext_append ((hXq.alloc _).alloc _) ((hrow.alloc _).alloc _) (Nat.le_refl _) hg3⟩
                · rw [HST2.out]
                  refine HYq.out.snoc (Nat.le_refl _) ((by repeat (first | exact Ext.refl _ | assumption | refine Ext.alloc ?_ _ | refine Ext.drew ?_ | refine Ext.drewN ?_ _ | refine Ext.setCell ?_ (by first | exact Nat.le_refl _ | (simp; done) | (dsimp only; omega) | (simp only [World.size_alloc, World.size_setCell]; omega)) _ | refine Ext.trans ?_ (by assumption))) : Ext wq _) ?_ (hr3) hg3
                  have hl := World.ownsRow_lit (base := w1.heap.size) (e := 3) (size := 1) wq #[.int .i64 (k : Int), .int .i64 ((k : Int) + 1)] 2 hXqs (by simp [maxLen]) rfl
                  exact hl.alloc _
              case measure => simp [intOf]; omega
            · obtain ⟨G, rfl, hG1, hG2⟩ := hG.resolve_left c2
              have hrow := HYq.out.row
              obtain ⟨q, hq⟩ : ∃ q, gs.length = q + 1 := ⟨gs.length - 1, by omega⟩
              have s1 := HYq.out.at_ (i := q) (by omega) rfl
              have s2 := HYq.out.icell (i := q) (j := 1) (by omega) (by omega)
              have f2 := HYq.out.ifree (i := q) (by omega) 1
              have hY2 := HYq.out.set (i := q) (by omega) 1 ((k : Int) + 1)
              have hil := HYq.out.inlen (i := q) (by omega)
              have hib := (HYq.out.inlt q (by omega)).1
              obtain ⟨bb, hbb⟩ : ∃ b, b = gs.getD q 0 := ⟨_, rfl⟩
              rw [← hbb] at s1 s2 f2 hY2 hib
              obtain ⟨e1, he1⟩ : ∃ e, e = (Y.getD q []).getD 1 0 := ⟨_, rfl⟩
              rw [← he1] at s2
              have HYL := hid (show Y.length = q + 1 by have := HLE.out; omega)
              have HE1 := hid he1
              have HY2 := hid hY2
              have HQ := hid hq
              have HIL := hid hil
              rw [hq] at hnc2 hgl
              try rw [hq] at hrow
              rw [hq]
              clear hbb hY2 he1 hil hq

              by_cases c3 : e1 = (k : Int)
              · have c3b : (e1 == (k : Int)) = true := by simpa using c3
                have HST2 := hid (show opZ (few z n p) (k + 1) = Y.set q [(Y.getD q []).getD 0 0, (k : Int) + 1] by
                  rw [HST.out, if_pos HF.out, HYL.out, Nat.add_sub_cancel, ← HE1.out, if_pos ⟨by omega, c3⟩])
                clear c3
                go_wp2_with (fail)
                go_roundw
                case rel =>
                  refine ⟨k + 1, gs, by omega, by go_num, ?_, hXq.setCell hib _⟩
                  rw [HST2.out]
                  have hl3 := HIL.out
                  have e3 : [(Y.getD q []).getD 0 0, (k : Int) + 1] = (Y.getD q []).set 1 ((k : Int) + 1) := by
                    match Y.getD q [], hl3 with
                    | [a0, a1], _ => rfl
                  rw [e3, show q + 1 = gs.length from HQ.out.symm]
                  exact HY2.out
                case measure => simp [intOf]; omega
              · have c3b : (e1 == (k : Int)) = false := by simpa using c3
                have HST2 := hid (show opZ (few z n p) (k + 1) = Y ++ [[(k : Int), (k : Int) + 1]] by
                  rw [HST.out, if_pos HF.out, HYL.out, Nat.add_sub_cancel, ← HE1.out, if_neg (fun hh => c3 hh.2)])
                clear c3
                go_wp2_with (first | (at_builtin; refine wpList_append_own _ rfl _ _ 26 rfl w1.heap.size 31 i0 _ _ _ Tryd.underlying26 hi hz0 hz1 hz2 rfl (by decide) _ _ _ rfl ((hrow.alloc _).alloc _) _ 1 1 [.slice (some ⟨wq.heap.size, 0, none⟩) 2 2] rfl rfl (cell_new1 _ _ _ _ (by simp)) (fun x hx => by simp at hx; subst hx; rfl) (by unfold maxLen; omega) (by omega) (by simp; omega) ?_; intro v' w3 hr3 hg3 hnil'))
                go_roundw
                case rel =>
                  refine ⟨k + 1, gs ++ [wq.heap.size], by omega, by go_num, ?_, ext_append ((hXq.alloc _).alloc _) ((hrow.alloc _).alloc _) (Nat.le_refl _) hg3⟩
                  · rw [HST2.out]
                    refine HYq.out.snoc (Nat.le_refl _) ((by repeat (first | exact Ext.refl _ | assumption | refine Ext.alloc ?_ _ | refine Ext.drew ?_ | refine Ext.drewN ?_ _ | refine Ext.setCell ?_ (by first | exact Nat.le_refl _ | (simp; done) | (dsimp only; omega) | (simp only [World.size_alloc, World.size_setCell]; omega)) _ | refine Ext.trans ?_ (by assumption))) : Ext wq _) ?_ (by rw [HQ.out]; exact hr3) hg3
                    have hl := World.ownsRow_lit (base := w1.heap.size) (e := 3) (size := 1) wq #[.int .i64 (k : Int), .int .i64 ((k : Int) + 1)] 2 hXqs (by simp [maxLen]) rfl
                    exact hl.alloc _
                case measure => simp [intOf]; omega
          · have f1 : decide (p ≤ (cn : Int)) = true := decide_eq_true (by omega)
            have HF := hid (show few z n p k = false by unfold few; rw [← HCN.out]; exact decide_eq_false hfew)
            clear hG
            go_wp2_with (fail)
            go_roundw
            case rel => exact ⟨k + 1, gs, by omega, by go_num, by rw [HST.out, if_neg (by rw [HF.out]; decide)]; exact HYq.out, hXq⟩
            case measure => simp [intOf]; omega
        · obtain rfl : k = 168 := by omega
          have HYr := hid hY
          clear hY
          go_wp2_with (fail)
          go_ret2
          exact ⟨_, gs, rfl, HYr.out.mono hs01, hb1.trans hX⟩

set_option maxRecDepth 100000 in
set_option maxHeartbeats 4000000 in
theorem iOpenHours_any (v : Value) (n : Nat) (z : List Int) (p : Int) (w : World) (h : IntRow .i64 3 w v n z) :
    Calls Tryd.prog 6 #[v, .int .i64 p] w fun e w' => ∃ v' gs, e = .returned (.tuple #[v', .bool (opC z n p)]) ∧ Lists w' w.heap.size v' 2 gs (opV z n p) ∧ Ext w w' := by
  cases hok : okSs z n with
  | false =>
    have HOK := hid hok
    have hc : opC z n p = false := by unfold opC; rw [hok]; rfl
    rw [show opV z n p = [] by unfold opV; rw [hc]; rfl, hc]
    clear hok hc
    go_enter Tryd.func6, Tryd.ntmps6
    go_wp2_with (fail)
    refine (iAreShifts_any v n z _ (h.ext (by repeat (first | exact Ext.refl _ | assumption | refine Ext.alloc ?_ _ | refine Ext.drew ?_ | refine Ext.drewN ?_ _ | refine Ext.setCell ?_ (by first | exact Nat.le_refl _ | (simp; done) | (dsimp only; omega) | (simp only [World.size_alloc, World.size_setCell]; omega)) _ | refine Ext.trans ?_ (by assumption))))).mono ?_
    rw [HOK.out]
    rintro e w1 ⟨rfl, hb1⟩
    go_wp2_with (fail)
    go_ret2
    exact ⟨_, [], rfl, Lists.nil _ _ _, (by repeat (first | exact Ext.refl _ | assumption | refine Ext.alloc ?_ _ | refine Ext.drew ?_ | refine Ext.drewN ?_ _ | refine Ext.setCell ?_ (by first | exact Nat.le_refl _ | (simp; done) | (dsimp only; omega) | (simp only [World.size_alloc, World.size_setCell]; omega)) _ | refine Ext.trans ?_ (by assumption)))⟩
  | true =>
    have HOK := hid hok
    cases hp : inR p 1 30 with
    | false =>
      have HP := hid hp
      have hc : opC z n p = false := by unfold opC; rw [hp, Bool.and_false]
      rw [show opV z n p = [] by unfold opV; rw [hc]; rfl, hc]
      clear hok hc hp
      go_enter Tryd.func6, Tryd.ntmps6
      go_wp2_with (fail)
      refine (iAreShifts_any v n z _ (h.ext (by repeat (first | exact Ext.refl _ | assumption | refine Ext.alloc ?_ _ | refine Ext.drew ?_ | refine Ext.drewN ?_ _ | refine Ext.setCell ?_ (by first | exact Nat.le_refl _ | (simp; done) | (dsimp only; omega) | (simp only [World.size_alloc, World.size_setCell]; omega)) _ | refine Ext.trans ?_ (by assumption))))).mono ?_
      rw [HOK.out]
      rintro e w1 ⟨rfl, hb1⟩
      go_wp2_with (go_at_call 31; refine (isOperator_any _ _).mono ?_; rw [HP.out]; rintro e w' ⟨rfl, rfl⟩)
      go_ret2
      exact ⟨_, [], rfl, Lists.nil _ _ _, (by repeat (first | exact Ext.refl _ | assumption | refine Ext.alloc ?_ _ | refine Ext.drew ?_ | refine Ext.drewN ?_ _ | refine Ext.setCell ?_ (by first | exact Nat.le_refl _ | (simp; done) | (dsimp only; omega) | (simp only [World.size_alloc, World.size_setCell]; omega)) _ | refine Ext.trans ?_ (by assumption)))⟩
    | true =>
      have HP := hid hp
      have hc : opC z n p = true := by unfold opC; rw [hok, hp]; rfl
      have HV := hid (show opV z n p = opZ (few z n p) 168 by unfold opV; rw [if_pos hc])
      rw [HV.out, hc]
      obtain ⟨i0, hi, hz0, hz1, hz2⟩ := info_parts info_Ints
      have hn60 := okSs_n hok
      have pb := inR_iff.1 hp
      obtain ⟨pb1, pb2⟩ := pb
      clear hok hc hp
      have hh := h
      obtain ⟨hl, hm, hwf, a, c, rfl, hnc, hcm, hcell⟩ := h
      unfold maxLen at hm
      clear hwf
      go_enter Tryd.func6, Tryd.ntmps6
      go_wp2_with (fail)
      refine (iAreShifts_any _ n z _ (hh.ext (by repeat (first | exact Ext.refl _ | assumption | refine Ext.alloc ?_ _ | refine Ext.drew ?_ | refine Ext.drewN ?_ _ | refine Ext.setCell ?_ (by first | exact Nat.le_refl _ | (simp; done) | (dsimp only; omega) | (simp only [World.size_alloc, World.size_setCell]; omega)) _ | refine Ext.trans ?_ (by assumption))))).mono ?_
      rw [HOK.out]
      rintro e w1 ⟨rfl, hb1⟩
      have hs01 := hb1.size
      go_wp2_with (go_at_call 31; refine (isOperator_any _ _).mono ?_; rw [HP.out]; rintro e w' ⟨rfl, rfl⟩)
      have hA0 : (w1.alloc (.cells Tryd.zeroCells57 57)).ownsRow w1.heap.size 57 168 (.slice (some ⟨w1.heap.size, 0, none⟩) 1 1) 1 ((cL z 0).map (Value.int .i64)) := by
        have hl := World.ownsRow_lit (base := w1.heap.size) (e := 57) (size := 168) w1 Tryd.zeroCells57 1 (Nat.le_refl _) (by simp [maxLen]) (by kernel_rfl)
        have e : Tryd.zeroCells57.toList = (cL z 0).map (Value.int .i64) := by
          have e1 : (cL z 0).map (Value.int .i64) = List.replicate 168 (Value.int .i64 0) := by
            rw [List.eq_replicate_iff]
            refine ⟨by rw [List.length_map, cL_length], fun x hx => ?_⟩
            simp only [cL, List.mem_map] at hx
            obtain ⟨y, ⟨h, _, rfl⟩, rfl⟩ := hx
            rfl
          rw [e1]
          rfl
        rw [← e]
        exact hl
      have hX0 : Ext w1 (w1.alloc (.cells Tryd.zeroCells57 57)) := (by repeat (first | exact Ext.refl _ | assumption | refine Ext.alloc ?_ _ | refine Ext.drew ?_ | refine Ext.drewN ?_ _ | refine Ext.setCell ?_ (by first | exact Nat.le_refl _ | (simp; done) | (dsimp only; omega) | (simp only [World.size_alloc, World.size_setCell]; omega)) _ | refine Ext.trans ?_ (by assumption)))
      have hgA : w1.heap.size < (w1.alloc (.cells Tryd.zeroCells57 57)).heap.size := by simp
      obtain ⟨gA, hgA2⟩ : ∃ g, g = w1.heap.size := ⟨_, rfl⟩
      rw [← hgA2] at hA0 hgA ⊢
      have hgA3 : w1.heap.size ≤ gA := by omega
      have hgA4 : gA ≤ w1.heap.size := by omega
      clear hgA2
      generalize w1.alloc (.cells Tryd.zeroCells57 57) = wa at *
      go_loopw [23] (fun i wr => ∃ (k : Nat), k ≤ n ∧ i = .int .i64 (k : Int) ∧ wr.ownsRow gA 57 168 (.slice (some ⟨gA, 0, none⟩) 1 1) 1 ((cL z k).map (Value.int .i64)) ∧ Ext w1 wr)
        (fun i _ => n - (intOf i).toNat)
      case atStart => exact ⟨0, Nat.zero_le _, rfl, hA0, hX0⟩
      case round =>
        clear hA0 hX0 hgA
        obtain ⟨k, hk, rfl, hA, hX⟩ := hrel
        by_cases hlt : k < n
        · obtain ⟨b, o, rfl, hb, hc⟩ := hcell.resolve_left (by omega)
          have hXX := hb1.trans hX
          obtain ⟨x0, hx0⟩ : ∃ x, x = z.getD (k * 3) 0 := ⟨_, rfl⟩
          have s0 : wr.cell? ⟨b, o + k * 3, none⟩ = some (.int .i64 x0) := by rw [(Ext.cells hXX).1 _ _ hb, show o + k * 3 = o + (k * 3) by omega, hc _ (by omega), hx0]
          have H0 := hid hx0
          clear hx0
          obtain ⟨x1, hx1⟩ : ∃ x, x = z.getD (k * 3 + 1) 0 := ⟨_, rfl⟩
          have s1 : wr.cell? ⟨b, o + k * 3 + 1, none⟩ = some (.int .i64 x1) := by rw [(Ext.cells hXX).1 _ _ hb, show o + k * 3 + 1 = o + (k * 3 + 1) by omega, hc _ (by omega), hx1]
          have H1 := hid hx1
          clear hx1
          obtain ⟨x2, hx2⟩ : ∃ x, x = z.getD (k * 3 + 2) 0 := ⟨_, rfl⟩
          have s2 : wr.cell? ⟨b, o + k * 3 + 2, none⟩ = some (.int .i64 x2) := by rw [(Ext.cells hXX).1 _ _ hb, show o + k * 3 + 2 = o + (k * 3 + 2) by omega, hc _ (by omega), hx2]
          have H2 := hid hx2
          clear hx2
          have sb := okSs_bd HOK.out k hlt
          have E1 := hid (show shFr z k = x1 from H1.out.symm)
          have E2 := hid (show shTo z k = x2 from H2.out.symm)
          rw [show shOp z k = x0 from H0.out.symm, E1.out, E2.out] at sb
          obtain ⟨sb1, sb2, sb3, sb4, sb5⟩ := sb
          clear hc hcell
          go_wp2_with (fail)
          have p1 : (wr.alloc (.cells #[.int .i64 x0, .int .i64 x1, .int .i64 x2] 42)).cell? ⟨wr.heap.size, 1, none⟩ = some (.int .i64 x1) := by simp [go_sem]
          have p2 : (wr.alloc (.cells #[.int .i64 x0, .int .i64 x1, .int .i64 x2] 42)).cell? ⟨wr.heap.size, 2, none⟩ = some (.int .i64 x2) := by simp [go_sem]
          have hA2 := hA.alloc (.cells #[.int .i64 x0, .int .i64 x1, .int .i64 x2] 42)
          have hX2 := hX.alloc (.cells #[.int .i64 x0, .int .i64 x1, .int .i64 x2] 42)
          have hgx : wr.heap.size < (wr.alloc (.cells #[.int .i64 x0, .int .i64 x1, .int .i64 x2] 42)).heap.size := by simp
          have hAlt := (hA.lt gA rfl).2
          obtain ⟨gx, hgx2⟩ : ∃ g, g = wr.heap.size := ⟨_, rfl⟩
          rw [← hgx2] at p1 p2 hgx hAlt ⊢
          clear s0 s1 s2 hgx2 hX hXX hA
          generalize wr.alloc (.cells #[.int .i64 x0, .int .i64 x1, .int .i64 x2] 42) = wx at *
          rw [← cP_zero] at hA2
          obtain ⟨f, rfl⟩ := Int.eq_ofNat_of_zero_le sb3
          obtain ⟨t, rfl⟩ := Int.eq_ofNat_of_zero_le (show 0 ≤ x2 by omega)
          go_loopw [9] (fun i wr => ∃ (d : Nat), f + d ≤ t ∧ i = .int .i64 ((f + d : Nat) : Int) ∧ wr.ownsRow gA 57 168 (.slice (some ⟨gA, 0, none⟩) 1 1) 1 ((cP z k d).map (Value.int .i64)) ∧ wr.cell? ⟨gx, 2, none⟩ = some (.int .i64 (t : Int)) ∧ Ext w1 wr)
            (fun i _ => t - (intOf i).toNat)
          case atStart => exact ⟨0, by omega, by go_num, hA2, p2, hX2⟩
          case round =>
            clear hA2 p2 hX2
            obtain ⟨d, hd, rfl, hA, p2, hX⟩ := hrel
            by_cases hdl : f + d < t
            · obtain ⟨y, hy⟩ : ∃ y, y = (cP z k d).getD (f + d) 0 := ⟨_, rfl⟩
              have sy : wr.cell? ⟨gA, f + d, none⟩ = some (.int .i64 y) := by rw [hA.cellAt (f + d) (by omega), map_getD (by rw [cP_length]; omega), hy]
              have fy := hA.frozenAt (f + d)
              have yv : y = (cntH z ((f + d : Nat) : Int) k : Int) := by rw [hy, cP_getD (by omega), if_neg (by rw [E1.out]; omega)]; omega
              have ycn := cntH_le z ((f + d : Nat) : Int) k
              have yb1 : 0 ≤ y := by omega
              have yb2 : y ≤ 60 := by omega
              have YV := hid yv
              have HA := hid hA
              obtain ⟨q, hq⟩ : ∃ q, q = f + d := ⟨_, rfl⟩
              rw [← hq] at sy fy hdl ⊢
              have HQ := hid hq
              have hq168 : q < 168 := by omega
              clear hy yv ycn hA hq
              go_wp2_with (fail)
              go_roundw
              case rel =>
                have st := HA.out.stored q (.int .i64 (y + 1))
                refine ⟨d + 1, by have := HQ.out; omega, by rw [HQ.out]; go_num, ?_, ?_, hX.setCell hgA3 _⟩
                · rw [cP_step E1.out (by have := HQ.out; omega), ← map_set_int, ← YV.out, ← HQ.out]
                  exact st.1
                · rw [World.cell?_setCell_other _ _ _ _ (by first | (simp; done) | (simp; omega))]
                  exact p2
              case measure => have := HQ.out; simp [intOf]; omega
            · have hd2 : f + d = t := by omega
              have HD := hid (cP_end (z := z) (k := k) (d := d) (by rw [E1.out, E2.out]; omega))
              have HA := hid hA
              clear hA
              go_wp2_with (fail)
              go_roundw
              case rel => exact ⟨k + 1, by omega, by go_num, by rw [← HD.out]; exact HA.out, hX⟩
              case measure => simp [intOf]; omega
        · obtain rfl : n = k := by omega
          have hcells := hA.2
          rcases hcells with ⟨hc0, _⟩ | ⟨g0, cap0, cur, hv0, _, hg0, _, _, hcs, hct⟩
          · simp at hc0
          · simp only [Value.slice.injEq, Option.some.injEq, Addr.mk.injEq, and_true, true_and] at hv0
            obtain ⟨rfl, rfl⟩ := hv0
            have hcl : cur.toList = (cL z n).map (Value.int .i64) := by rw [← hct, List.take_of_length_le (by rw [Array.length_toList, hcs]; exact Nat.le_refl _)]
            have hci : ∀ h, h < 168 → cur[h]? = some (.int .i64 (cntH z (h : Int) n : Int)) := fun h hh => by
              rw [← Array.getElem?_toList, hcl, map_getD (by rw [cL_length]; exact hh), cL_getD hh]
            have hinf : (Tryd.prog.info? 57).map (·.size) = some cur.size := by rw [hcs]; kernel_rfl
            have HCI := hid hci
            have HIX := hid (fun (h : Nat) (hh : h < 168) => arr_index cur h _ hh (hci h hh))
            have HAC := hid (fun (h : Nat) (hh : h < 168) (wy : World) (hy : Ext wr wy) => show wy.cell? ⟨gA, h, none⟩ = some (.int .i64 (cntH z (h : Int) n : Int)) by
              rw [(Ext.cells hy).1 _ _ (hA.lt gA rfl).2, hA.cellAt h (by omega), map_getD (by rw [cL_length]; exact hh), cL_getD hh])
            have hXs := hX.size
            clear hct hcl hci hcs hA hcell
            obtain ⟨wo, rfl⟩ : ∃ wo : World, wo = wr := ⟨_, rfl⟩
            go_wp2_with (with_reducible refine wpList_load_row rfl 57 (.tmp 6) rfl gA rfl 57 cur (0, 0) _ hg0 Tryd.underlying57 rfl hinf ?_)
            go_loopw [10, 42] (fun u i wr => ∃ (q : Nat) (gs : List Nat), q ≤ 168 ∧ i = .int .i64 (q : Int) ∧ Lists wr wo.heap.size u 2 gs (opZ (few z n p) q) ∧ Ext wo wr)
              (fun _ i _ => 168 - (intOf i).toNat)
            case atStart => exact ⟨0, [], Nat.zero_le _, rfl, Lists.nil _ _ _, Ext.refl _⟩
            case round =>
              obtain ⟨k, gs, hk, rfl, hY, hXq⟩ := hrel
              by_cases hlt : k < 168
              · have hst : opZ (few z n p) (k + 1) = if few z n p k = true then (if 0 < (opZ (few z n p) k).length ∧ ((opZ (few z n p) k).getD ((opZ (few z n p) k).length - 1) []).getD 1 0 = (k : Int) then (opZ (few z n p) k).set ((opZ (few z n p) k).length - 1) [((opZ (few z n p) k).getD ((opZ (few z n p) k).length - 1) []).getD 0 0, (k : Int) + 1] else opZ (few z n p) k ++ [[(k : Int), (k : Int) + 1]]) else opZ (few z n p) k := rfl
                have oinv := opZ_inv (few z n p) k
                obtain ⟨oi1, oi2, oi3⟩ := oinv
                obtain ⟨Y, hYe⟩ : ∃ Y, Y = opZ (few z n p) k := ⟨_, rfl⟩
                rw [← hYe] at hst oi1 oi3 hY
                have hle := hY.len
                have hgl : gs.length ≤ 168 := by omega
                have HST := hid hst
                have HOI := hid oi3
                have HLE := hid hle
                clear hst oi2 oi3 hYe hle

                obtain ⟨aG, cG, rfl, hnc2, hcm2, hG⟩ := hY.shape
                have HYq := hid hY
                have hXqs := hXq.size
                have hix := HIX.out k hlt
                have hcn := cntH_le z (k : Int) n
                obtain ⟨cn, hcn2⟩ : ∃ x, x = cntH z (k : Int) n := ⟨_, rfl⟩
                rw [← hcn2] at hix hcn
                have HCN := hid hcn2
                clear hY hcn2
                by_cases hfew : (cn : Int) < p
                · have f1 : decide (p ≤ (cn : Int)) = false := decide_eq_false (by omega)
                  have HF := hid (show few z n p k = true by unfold few; rw [← HCN.out]; exact decide_eq_true hfew)
                  by_cases hk0 : k = 0
                  · have z1 : decide ((0 : Int) < (k : Int)) = false := decide_eq_false (by omega)
                    have z2 : decide (0 < k) = false := decide_eq_false (by omega)
                    have hrow := HYq.out.row
                    have HST2 := hid (show opZ (few z n p) (k + 1) = Y ++ [[(k : Int), (k : Int) + 1]] by rw [HST.out, if_pos HF.out, if_neg (fun hh => by have := HOI.out.1 hh; omega)])
                    clear hk0 hG
                    go_wp2_with (first | (at_builtin; refine wpList_append_own _ rfl _ _ 26 rfl wo.heap.size 31 i0 _ _ _ Tryd.underlying26 hi hz0 hz1 hz2 rfl (by decide) _ _ _ rfl ((hrow.alloc _).alloc _) _ 1 1 [.slice (some ⟨wr.heap.size, 0, none⟩) 2 2] rfl rfl (cell_new1 _ _ _ _ (by simp)) (fun x hx => by simp at hx; subst hx; rfl) (by unfold maxLen; omega) (by omega) (by simp; omega) ?_; intro v' w3 hr3 hg3 hnil'))
                    go_roundw
                    case rel =>
                      refine ⟨k + 1, gs ++ [wr.heap.size], by omega, by go_num, ?_, ext_append ((hXq.alloc _).alloc _) ((hrow.alloc _).alloc _) (Nat.le_refl _) hg3⟩
                      · rw [HST2.out]
                        refine HYq.out.snoc (Nat.le_refl _) ((by repeat (first | exact Ext.refl _ | assumption | refine Ext.alloc ?_ _ | refine Ext.drew ?_ | refine Ext.drewN ?_ _ | refine Ext.setCell ?_ (by first | exact Nat.le_refl _ | (simp; done) | (dsimp only; omega) | (simp only [World.size_alloc, World.size_setCell]; omega)) _ | refine Ext.trans ?_ (by assumption))) : Ext wr _) ?_ (hr3) hg3
                        have hl := World.ownsRow_lit (base := wo.heap.size) (e := 3) (size := 1) wr #[.int .i64 (k : Int), .int .i64 ((k : Int) + 1)] 2 hXqs (by simp [maxLen]) rfl
                        exact hl.alloc _
                    case measure => simp [intOf]; omega
                  · have z2 : decide (0 < k) = true := decide_eq_true (by omega)
                    have z3 : (1 : Int) ≤ (k : Int) := by omega
                    have z4 : IntKind.i64.wrap ((k : Int) - 1) = (k : Int) - 1 := IntWalk.i64_in _ (by omega)
                    have z5 : ((k : Int) - 1).toNat = k - 1 := by omega
                    have ycn := cntH_le z ((k - 1 : Nat) : Int) n
                    have sy := HAC.out (k - 1) (by omega) wr hXq
                    obtain ⟨y, hy⟩ : ∃ x, x = cntH z ((k - 1 : Nat) : Int) n := ⟨_, rfl⟩
                    rw [← hy] at ycn sy
                    have HY1 := hid hy
                    have hXq0 := hXq
                    clear hy hk0
                    by_cases hyp : (y : Int) < p
                    · have g1 : decide ((y : Int) < p) = true := decide_eq_true hyp
                      have hcond := HOI.out.2 ⟨by omega, by unfold few; rw [← HY1.out]; exact g1⟩
                      have HCOND := hid hcond
                      have hl0 := hcond.1
                      obtain ⟨G, rfl, hG1, hG2⟩ := hG.resolve_left (by have := HLE.out; omega)
                      have HST2 := hid (show opZ (few z n p) (k + 1) = Y.set (Y.length - 1) [(Y.getD (Y.length - 1) []).getD 0 0, (k : Int) + 1] by rw [HST.out, if_pos HF.out, if_pos HCOND.out])
                      clear hcond hyp
                      have hl1 : 0 < gs.length := by have := HLE.out; omega
                      obtain ⟨q, hq⟩ : ∃ q, gs.length = q + 1 := ⟨gs.length - 1, by omega⟩
                      have s1 := HYq.out.at_ (i := q) (by omega) rfl
                      have s2 := HYq.out.icell (i := q) (j := 1) (by omega) (by omega)
                      have f2 := HYq.out.ifree (i := q) (by omega) 1
                      have hY2 := HYq.out.set (i := q) (by omega) 1 ((k : Int) + 1)
                      have hil := HYq.out.inlen (i := q) (by omega)
                      have hib := (HYq.out.inlt q (by omega)).1
                      obtain ⟨bb, hbb⟩ : ∃ b, b = gs.getD q 0 := ⟨_, rfl⟩
                      rw [← hbb] at s1 s2 f2 hY2 hib
                      obtain ⟨e1, he1⟩ : ∃ e, e = (Y.getD q []).getD 1 0 := ⟨_, rfl⟩
                      rw [← he1] at s2
                      have HYL := hid (show Y.length = q + 1 by have := HLE.out; omega)
                      have HE1 := hid he1
                      have HY2 := hid hY2
                      have HQ := hid hq
                      have HIL := hid hil
                      rw [hq] at hnc2 hgl
                      rw [hq]
                      clear hbb hY2 he1 hil hq

                      clear hl0 hl1
                      have HST2 := hid (show opZ (few z n p) (k + 1) = Y.set q [(Y.getD q []).getD 0 0, (k : Int) + 1] by rw [HST2.out, HYL.out, Nat.add_sub_cancel])
                      go_wp2_with (fail)
                      go_roundw
                      case rel =>
                        refine ⟨k + 1, gs, by omega, by go_num, ?_, hXq.setCell hib _⟩
                        rw [HST2.out]
                        have hl3 := HIL.out
                        have e3 : [(Y.getD q []).getD 0 0, (k : Int) + 1] = (Y.getD q []).set 1 ((k : Int) + 1) := by
                          match Y.getD q [], hl3 with
                          | [a0, a1], _ => rfl
                        rw [e3, show q + 1 = gs.length from HQ.out.symm]
                        exact HY2.out
                      case measure => simp [intOf]; omega
                    · have g1 : decide ((y : Int) < p) = false := decide_eq_false hyp
                      have hrow := HYq.out.row
                      have HST2 := hid (show opZ (few z n p) (k + 1) = Y ++ [[(k : Int), (k : Int) + 1]] by
                        rw [HST.out, if_pos HF.out, if_neg (fun hh => by
                          have := (HOI.out.1 hh).2
                          unfold few at this
                          rw [← HY1.out, g1] at this
                          cases this)])
                      clear hyp hG
                      go_wp2_with (first | (at_builtin; refine wpList_append_own _ rfl _ _ 26 rfl wo.heap.size 31 i0 _ _ _ Tryd.underlying26 hi hz0 hz1 hz2 rfl (by decide) _ _ _ rfl ((hrow.alloc _).alloc _) _ 1 1 [.slice (some ⟨wr.heap.size, 0, none⟩) 2 2] rfl rfl (cell_new1 _ _ _ _ (by simp)) (fun x hx => by simp at hx; subst hx; rfl) (by unfold maxLen; omega) (by omega) (by simp; omega) ?_; intro v' w3 hr3 hg3 hnil'))
                      go_roundw
                      case rel =>
                        refine ⟨k + 1, gs ++ [wr.heap.size], by omega, by go_num, ?_, ext_append ((hXq.alloc _).alloc _) ((hrow.alloc _).alloc _) (Nat.le_refl _) hg3⟩
                        · rw [HST2.out]
                          refine HYq.out.snoc (Nat.le_refl _) ((by repeat (first | exact Ext.refl _ | assumption | refine Ext.alloc ?_ _ | refine Ext.drew ?_ | refine Ext.drewN ?_ _ | refine Ext.setCell ?_ (by first | exact Nat.le_refl _ | (simp; done) | (dsimp only; omega) | (simp only [World.size_alloc, World.size_setCell]; omega)) _ | refine Ext.trans ?_ (by assumption))) : Ext wr _) ?_ (hr3) hg3
                          have hl := World.ownsRow_lit (base := wo.heap.size) (e := 3) (size := 1) wr #[.int .i64 (k : Int), .int .i64 ((k : Int) + 1)] 2 hXqs (by simp [maxLen]) rfl
                          exact hl.alloc _
                      case measure => simp [intOf]; omega
                · have f1 : decide (p ≤ (cn : Int)) = true := decide_eq_true (by omega)
                  have HF := hid (show few z n p k = false by unfold few; rw [← HCN.out]; exact decide_eq_false hfew)
                  clear hG
                  go_wp2_with (fail)
                  go_roundw
                  case rel => exact ⟨k + 1, gs, by omega, by go_num, by rw [HST.out, if_neg (by rw [HF.out]; decide)]; exact HYq.out, hXq⟩
                  case measure => simp [intOf]; omega
              · obtain rfl : k = 168 := by omega
                have HYr := hid hY
                clear hY
                go_wp2_with (fail)
                go_ret2
                exact ⟨_, gs, rfl, HYr.out.mono (by omega), hb1.trans (hX.trans hXq)⟩

end Go.Proofs.YtedkffdkhnfoiaaDoor
