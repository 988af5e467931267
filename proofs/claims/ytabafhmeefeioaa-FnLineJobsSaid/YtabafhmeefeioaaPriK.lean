/- The chapter of priorities: segments, breaks. No condition. -/
import Derived.Test.YtabafhmeefeioaaPriG
import Derived.Test.YtabafhmeefeioaaConvLists
namespace Go.Proofs.Ytabafhmeefeioaa
open Go.RowKit
set_option linter.unusedSimpArgs false
set_option linter.unusedVariables false

/-- segments: what is laid down after t ticks (T: the job of a tick, or below 0) -/
def sgZ (T : Nat → Int) : Nat → List (List Int)
  | 0 => []
  | t + 1 =>
    if T t < 0 then sgZ T t
    else if 0 < (sgZ T t).length ∧ ((sgZ T t).getD ((sgZ T t).length - 1) []).getD 0 0 = T t ∧ ((sgZ T t).getD ((sgZ T t).length - 1) []).getD 2 0 = (t : Int) then
      (sgZ T t).set ((sgZ T t).length - 1) [((sgZ T t).getD ((sgZ T t).length - 1) []).getD 0 0, ((sgZ T t).getD ((sgZ T t).length - 1) []).getD 1 0, (t : Int) + 1]
    else sgZ T t ++ [[T t, (t : Int), (t : Int) + 1]]
def lastT (T : Nat → Int) : Nat → Int
  | 0 => -1
  | t + 1 => T t
theorem sgZ_inv {T : Nat → Int} {n : Int} (hT : ∀ t, T t < n) : ∀ t, (sgZ T t).length ≤ t ∧ (∀ x ∈ sgZ T t, ∃ i a b : Int, x = [i, a, b] ∧ 0 ≤ i ∧ i < n ∧ 0 ≤ a ∧ a < b ∧ b ≤ t) ∧
    (0 ≤ lastT T t → 0 < (sgZ T t).length ∧ ((sgZ T t).getD ((sgZ T t).length - 1) []).getD 0 0 = lastT T t ∧ ((sgZ T t).getD ((sgZ T t).length - 1) []).getD 2 0 = (t : Int)) ∧
    (lastT T t < 0 → 0 < (sgZ T t).length → ((sgZ T t).getD ((sgZ T t).length - 1) []).getD 2 0 < (t : Int))
  | 0 => by simp [sgZ, lastT]
  | t + 1 => by
    obtain ⟨h1, h2, h3, h4⟩ := sgZ_inv hT t
    have hTt := hT t
    have hin : 0 < (sgZ T t).length → (sgZ T t).getD ((sgZ T t).length - 1) [] ∈ sgZ T t := fun hl => by
      rw [List.getD_eq_getElem?_getD, List.getElem?_eq_getElem (by omega)]; exact List.getElem_mem _
    rw [sgZ, lastT]
    by_cases c : T t < 0
    · rw [if_pos c]
      refine ⟨by omega, fun x hx => by obtain ⟨i, a, b, e, h5⟩ := h2 x hx; exact ⟨i, a, b, e, by omega⟩, fun hh => by omega, fun _ hl => ?_⟩
      obtain ⟨i, a, b, e, h5⟩ := h2 _ (hin hl)
      rw [e]; simp; omega
    · rw [if_neg c]
      by_cases d : 0 < (sgZ T t).length ∧ ((sgZ T t).getD ((sgZ T t).length - 1) []).getD 0 0 = T t ∧ ((sgZ T t).getD ((sgZ T t).length - 1) []).getD 2 0 = (t : Int)
      · rw [if_pos d]
        obtain ⟨i, a, b, e, h5⟩ := h2 _ (hin d.1)
        rw [e] at d ⊢
        simp at d
        refine ⟨by rw [List.length_set]; omega, fun x hx => ?_, fun _ => ⟨by rw [List.length_set]; exact d.1, ?_⟩, fun hh => by omega⟩
        · rcases List.mem_or_eq_of_mem_set hx with hx | rfl
          · obtain ⟨i, a, b, e, h6⟩ := h2 x hx; exact ⟨i, a, b, e, by omega⟩
          · exact ⟨i, a, _, rfl, by omega, by omega, by omega, by omega, by omega⟩
        · rw [List.length_set, getD_set_same (by omega)]
          simp; exact d.2.1
      · rw [if_neg d]
        refine ⟨by simp; omega, fun x hx => ?_, fun _ => ⟨by simp, ?_⟩, fun hh => by omega⟩
        · rcases List.mem_append.1 hx with hx | hx
          · obtain ⟨i, a, b, e, h6⟩ := h2 x hx; exact ⟨i, a, b, e, by omega⟩
          · simp only [List.mem_singleton] at hx; subst hx; exact ⟨_, _, _, rfl, by omega, by omega, by omega, by omega, by omega⟩
        · rw [getD_append_last]; simp
/-- the program's test: the job is that of the tick before -/
theorem sgZ_last {T : Nat → Int} {n : Int} (hT : ∀ t, T t < n) (t : Nat) (h0 : 0 ≤ T t) :
    (0 < (sgZ T t).length ∧ ((sgZ T t).getD ((sgZ T t).length - 1) []).getD 0 0 = T t ∧ ((sgZ T t).getD ((sgZ T t).length - 1) []).getD 2 0 = (t : Int)) ↔ T t = lastT T t := by
  obtain ⟨_, _, h3, h4⟩ := sgZ_inv hT t
  constructor
  · rintro ⟨a, b, c⟩
    by_cases l : 0 ≤ lastT T t
    · have := h3 l; omega
    · have := h4 (by omega) a; omega
  · intro e
    have := h3 (by omega)
    rw [e]
    exact this


/-- the segments of all ticks -/
def segJ (z : List Int) (n : Nat) : List (List Int) := sgZ (tickB z n) (endT z n)

set_option maxRecDepth 100000 in
set_option maxHeartbeats 2000000 in
theorem iSegs_any (v : Value) (n : Nat) (z : List Int) (w : World) (h : IntRow .i64 3 w v n z) (hok : okJs z n = true) :
    Calls Try.prog 70 #[v] w fun e w' => ∃ v' gs, e = .returned v' ∧ Lists w' w.heap.size v' 3 gs (segJ z n) ∧ Ext w w' := by
  obtain ⟨i0, hi, hz0, hz1, hz2⟩ := info_parts info_Ints
  have hN := endT_le hok
  have hT : ∀ t, tickB z n t < (n : Int) := fun t => (tick_range z n t).2
  have hTw : ∀ t, -1 ≤ tickB z n t ∧ tickB z n t ≤ 12 := fun t => by
    have := tick_range z n t
    have := okJs_n hok
    omega
  have HTW := hid hTw
  have HT := hid hT
  clear hTw hT
  go_enter Try.func70, Try.ntmps70
  go_wp2_with (fail)
  refine (sentTicks_any v n z w h hok).mono ?_
  rintro e w1 ⟨vs, rfl, hs, hb1⟩
  clear h
  obtain ⟨N, hN'⟩ : ∃ N, N = endT z n := ⟨_, rfl⟩
  have HNN := hid hN'
  obtain ⟨sa, sc, rfl, hs1, hs2, hsg⟩ := row_shape hs
  have HS := hid (fun (k : Nat) (hk : k < N) (g : Nat) (hg : sa = some ⟨g, 0, none⟩) => row_tick hs (by rw [hg]) k (by omega))
  rw [← hN'] at hN hs1 hsg ⊢
  clear hs hN'
  go_wp2_with (fail)
  go_loopw [3, 4, 10] (fun sg la i wr => ∃ (k : Nat) (gs : List Nat), k ≤ N ∧ i = .int .i64 (k : Int) ∧ la = .int .i64 (lastT (tickB z n) k) ∧ Lists wr w1.heap.size sg 3 gs (sgZ (tickB z n) k) ∧ Ext w1 wr)
    (fun _ _ i _ => N - (intOf i).toNat)
  case atStart => exact ⟨0, [], Nat.zero_le _, rfl, rfl, Lists.nil _ _ _, Ext.refl _⟩
  case round =>
    obtain ⟨k, gs, hk, rfl, rfl, hY, hE⟩ := hrel
    by_cases hlt : k < N
    · obtain ⟨g, rfl, _, hgs⟩ := hsg.resolve_left (by omega)
      obtain ⟨x, hx⟩ : ∃ x, x = tickB z n k := ⟨_, rfl⟩
      have xb := HTW.out k
      rw [← hx] at xb
      have s0 : wr.cell? ⟨g, k, none⟩ = some (.int .i64 x) := by rw [(Ext.cells hE).1 _ _ hgs, HS.out k hlt g rfl, hx]
      have inv := sgZ_inv HT.out k
      obtain ⟨i1, i2, i3, i4⟩ := inv
      have hle := hY.len
      have iff1 := sgZ_last HT.out k
      have hst : sgZ (tickB z n) (k + 1) = if x < 0 then sgZ (tickB z n) k
        else if 0 < (sgZ (tickB z n) k).length ∧ ((sgZ (tickB z n) k).getD ((sgZ (tickB z n) k).length - 1) []).getD 0 0 = x ∧ ((sgZ (tickB z n) k).getD ((sgZ (tickB z n) k).length - 1) []).getD 2 0 = (k : Int) then
          (sgZ (tickB z n) k).set ((sgZ (tickB z n) k).length - 1) [((sgZ (tickB z n) k).getD ((sgZ (tickB z n) k).length - 1) []).getD 0 0, ((sgZ (tickB z n) k).getD ((sgZ (tickB z n) k).length - 1) []).getD 1 0, (k : Int) + 1]
        else sgZ (tickB z n) k ++ [[x, (k : Int), (k : Int) + 1]] := by rw [hx]; rfl
      have hla : lastT (tickB z n) (k + 1) = x := hx.symm
      rw [← hx] at iff1
      obtain ⟨q, hq⟩ : ∃ q, q = lastT (tickB z n) k := ⟨_, rfl⟩
      have qb : -1 ≤ q ∧ q ≤ 12 := by
        rw [hq]
        cases k with
        | zero => simp [lastT]
        | succ k => exact HTW.out k
      rw [← hq] at iff1 i3 i4 ⊢
      have HLA := hid hla
      obtain ⟨Y, hYe⟩ : ∃ Y, Y = sgZ (tickB z n) k := ⟨_, rfl⟩
      rw [← hYe] at hY hle iff1 i1 i2 i3 i4 hst
      have HST := hid hst
      have HI3 := hid i3
      have HIFF := hid iff1
      clear hst hx hla hq hYe i2 i3 i4 iff1
      obtain ⟨a, c, rfl, hnc, hcm, hG⟩ := hY.shape
      have hgl : gs.length ≤ 680 := by omega
      have HLE := hid hle
      clear hle
      by_cases c1 : x < 0
      · have HY := hid hY
        clear hY hG
        go_wp2_with (fail)
        go_roundw
        case rel => exact ⟨k + 1, gs, by omega, by go_num, by rw [HLA.out], by rw [HST.out, if_pos c1]; exact HY.out, (by repeat (first | exact Ext.refl _ | assumption | refine Ext.alloc ?_ _ | refine Ext.drew ?_ | refine Ext.drewN ?_ _ | refine Ext.setCell ?_ (by first | exact Nat.le_refl _ | (simp; done) | (dsimp only; omega) | (simp only [World.size_alloc, World.size_setCell]; omega)) _ | refine Ext.trans ?_ (by assumption)))⟩
        case measure => simp [intOf]; omega
      · by_cases c2 : x = q
        · have c2b : (x == q) = true := by simpa using c2
          have hin := HI3.out (by omega)
          have hp0 : 0 < Y.length := ((HIFF.out (by omega)).2 c2).1
          obtain ⟨G, rfl, hG1, hG2⟩ := hG.resolve_left (by have := HLE.out; omega)
          obtain ⟨p, hp⟩ : ∃ p, gs.length = p + 1 := ⟨gs.length - 1, by have := HLE.out; omega⟩
          have s1 := hY.at_ (i := p) (by omega) rfl
          have s2 := hY.icell (i := p) (j := 2) (by omega) (by omega)
          have f2 := hY.ifree (i := p) (by omega) 2
          have hY2 := hY.set (i := p) (by omega) 2 ((k : Int) + 1)
          have hil := hY.inlen (i := p) (by omega)
          have hib := (hY.inlt p (by omega)).1
          obtain ⟨b, hb⟩ : ∃ b, b = gs.getD p 0 := ⟨_, rfl⟩
          rw [← hb] at s1 s2 f2 hY2 hib
          obtain ⟨e2, he2⟩ : ∃ e, e = (Y.getD p []).getD 2 0 := ⟨_, rfl⟩
          rw [← he2] at s2
          have HY2 := hid hY2
          have HC := hid ((HIFF.out (by omega)).2 c2)
          have HP := hid hp
          have HIL := hid hil
          clear hb hY hY2 hin c2 he2 hG hil
          rw [hp]
          rw [hp] at hnc hgl
          clear hp
          go_wp2_with (fail)
          go_roundw
          case rel =>
            refine ⟨k + 1, gs, by omega, by go_num, by rw [HLA.out], ?_, hE.setCell hib _⟩
            rw [HST.out, if_neg c1, if_pos HC.out]
            have e1 : Y.length - 1 = p := by have := HLE.out; have := HP.out; omega
            rw [e1]
            have hl3 := HIL.out
            have e3 : [(Y.getD p []).getD 0 0, (Y.getD p []).getD 1 0, (k : Int) + 1] = (Y.getD p []).set 2 ((k : Int) + 1) := by
              match Y.getD p [], hl3 with
              | [a0, a1, a2], _ => rfl
            rw [e3, show p + 1 = gs.length from HP.out.symm]
            exact HY2.out
          case measure => simp [intOf]; omega
        · have c2b : (x == q) = false := by simpa using c2
          have hrow := hY.row
          have HY := hid hY
          have hC := HIFF.out (by omega)
          have HC := hid (show ¬ (0 < Y.length ∧ (Y.getD (Y.length - 1) []).getD 0 0 = x ∧ (Y.getD (Y.length - 1) []).getD 2 0 = (k : Int)) from fun hh => c2 (hC.1 hh))
          have hEs := hE.size
          clear hY hC c2 hG
          go_wp2_with (first | (at_builtin; refine wpList_append_own _ rfl _ _ 44 rfl w1.heap.size 38 i0 _ _ _ Try.underlying44 hi hz0 hz1 hz2 rfl (by decide) _ _ _ rfl ((hrow.alloc _).alloc _) _ 1 1 [.slice (some ⟨wr.heap.size, 0, none⟩) 3 3] rfl rfl (cell_new1 _ _ _ _ (by simp)) (fun x hx => by simp at hx; subst hx; rfl) (by unfold maxLen; omega) (by omega) (by simp; omega) ?_; intro v' w3 hr3 hg3 hnil'))
          go_roundw
          case rel =>
            refine ⟨k + 1, gs ++ [wr.heap.size], by omega, by go_num, by rw [HLA.out], ?_, ?_⟩
            · rw [HST.out, if_neg c1, if_neg HC.out]
              refine HY.out.snoc (Nat.le_refl _) ((by repeat (first | exact Ext.refl _ | assumption | refine Ext.alloc ?_ _ | refine Ext.drew ?_ | refine Ext.drewN ?_ _ | refine Ext.setCell ?_ (by first | exact Nat.le_refl _ | (simp; done) | (dsimp only; omega) | (simp only [World.size_alloc, World.size_setCell]; omega)) _ | refine Ext.trans ?_ (by assumption))) : Ext wr _) ?_ hr3 hg3
              have hl := World.ownsRow_lit (base := w1.heap.size) (e := 3) (size := 1) wr #[.int .i64 x, .int .i64 (k : Int), .int .i64 ((k : Int) + 1)] 3 hE.size (by simp [maxLen]) rfl
              exact hl.alloc _
            · exact ext_append ((hE.alloc _).alloc _) ((hrow.alloc _).alloc _) (Nat.le_refl _) hg3
          case measure => simp [intOf]; omega
    · obtain rfl : N = k := by omega
      have HY := hid hY
      clear hY
      go_wp2_with (fail)
      go_ret
      refine ⟨_, gs, rfl, ?_, hb1.trans hE⟩
      unfold segJ
      rw [← HNN.out]
      exact HY.out.mono hb1.size
set_option maxRecDepth 100000 in
set_option maxHeartbeats 2000000 in
theorem sSegs_any (v : Value) (n : Nat) (z : List Int) (w : World) (h : IntRow .i64 3 w v n z) (hok : okJs z n = true) :
    Calls Try.prog 69 #[v] w fun e w' => ∃ v' gs, e = .returned v' ∧ Lists w' w.heap.size v' 3 gs (segJ z n) ∧ Ext w w' := by
  obtain ⟨i0, hi, hz0, hz1, hz2⟩ := info_parts info_Ints
  have hN := endT_le hok
  have hT : ∀ t, tickB z n t < (n : Int) := fun t => (tick_range z n t).2
  have hTw : ∀ t, -1 ≤ tickB z n t ∧ tickB z n t ≤ 12 := fun t => by
    have := tick_range z n t
    have := okJs_n hok
    omega
  have HTW := hid hTw
  have HT := hid hT
  clear hTw hT
  go_enter Try.func69, Try.ntmps69
  go_wp2_with (fail)
  refine (prRun_any v n z w h hok).mono ?_
  rintro e w1 ⟨vs, rfl, hs, hb1⟩
  clear h
  obtain ⟨N, hN'⟩ : ∃ N, N = endT z n := ⟨_, rfl⟩
  have HNN := hid hN'
  obtain ⟨sa, sc, rfl, hs1, hs2, hsg⟩ := row_shape hs
  have HS := hid (fun (k : Nat) (hk : k < N) (g : Nat) (hg : sa = some ⟨g, 0, none⟩) => row_tick hs (by rw [hg]) k (by omega))
  rw [← hN'] at hN hs1 hsg ⊢
  clear hs hN'
  go_wp2_with (fail)
  go_loopw [3, 10] (fun sg i wr => ∃ (k : Nat) (gs : List Nat), k ≤ N ∧ i = .int .i64 (k : Int) ∧ Lists wr w1.heap.size sg 3 gs (sgZ (tickB z n) k) ∧ Ext w1 wr)
    (fun _ i _ => N - (intOf i).toNat)
  case atStart => exact ⟨0, [], Nat.zero_le _, rfl, Lists.nil _ _ _, Ext.refl _⟩
  case round =>
    obtain ⟨k, gs, hk, rfl, hY, hE⟩ := hrel
    by_cases hlt : k < N
    · obtain ⟨g, rfl, _, hgs⟩ := hsg.resolve_left (by omega)
      obtain ⟨x, hx⟩ : ∃ x, x = tickB z n k := ⟨_, rfl⟩
      have xb := HTW.out k
      rw [← hx] at xb
      have s0 : wr.cell? ⟨g, k, none⟩ = some (.int .i64 x) := by rw [(Ext.cells hE).1 _ _ hgs, HS.out k hlt g rfl, hx]
      have inv := sgZ_inv HT.out k
      obtain ⟨i1, i2, _, _⟩ := inv
      have hle := hY.len
      have hst : sgZ (tickB z n) (k + 1) = if x < 0 then sgZ (tickB z n) k
        else if 0 < (sgZ (tickB z n) k).length ∧ ((sgZ (tickB z n) k).getD ((sgZ (tickB z n) k).length - 1) []).getD 0 0 = x ∧ ((sgZ (tickB z n) k).getD ((sgZ (tickB z n) k).length - 1) []).getD 2 0 = (k : Int) then
          (sgZ (tickB z n) k).set ((sgZ (tickB z n) k).length - 1) [((sgZ (tickB z n) k).getD ((sgZ (tickB z n) k).length - 1) []).getD 0 0, ((sgZ (tickB z n) k).getD ((sgZ (tickB z n) k).length - 1) []).getD 1 0, (k : Int) + 1]
        else sgZ (tickB z n) k ++ [[x, (k : Int), (k : Int) + 1]] := by rw [hx]; rfl
      obtain ⟨Y, hYe⟩ : ∃ Y, Y = sgZ (tickB z n) k := ⟨_, rfl⟩
      rw [← hYe] at hY hle i1 i2 hst
      have HST := hid hst
      clear hst hx hYe i2
      obtain ⟨a, c, rfl, hnc, hcm, hG⟩ := hY.shape
      have hgl : gs.length ≤ 680 := by omega
      have HLE := hid hle
      clear hle
      by_cases c1 : x < 0
      · have HY := hid hY
        clear hY hG
        go_wp2_with (fail)
        go_roundw
        case rel => exact ⟨k + 1, gs, by omega, by go_num, by rw [HST.out, if_pos c1]; exact HY.out, (by repeat (first | exact Ext.refl _ | assumption | refine Ext.alloc ?_ _ | refine Ext.drew ?_ | refine Ext.drewN ?_ _ | refine Ext.setCell ?_ (by first | exact Nat.le_refl _ | (simp; done) | (dsimp only; omega) | (simp only [World.size_alloc, World.size_setCell]; omega)) _ | refine Ext.trans ?_ (by assumption)))⟩
        case measure => simp [intOf]; omega
      · by_cases c2 : gs.length = 0
        · have hrow := hY.row
          have HY := hid hY
          have HC := hid (show ¬ (0 < Y.length ∧ (Y.getD (Y.length - 1) []).getD 0 0 = x ∧ (Y.getD (Y.length - 1) []).getD 2 0 = (k : Int)) from fun hh => by have := HLE.out; omega)
          have hEs := hE.size
          have c2b : decide ((0 : Int) < gs.length) = false := decide_eq_false (by omega)
          have c2c : decide (0 < gs.length) = false := decide_eq_false (by omega)
          clear hY c2 hG
          go_wp2_with (first | (at_builtin; refine wpList_append_own _ rfl _ _ 44 rfl w1.heap.size 38 i0 _ _ _ Try.underlying44 hi hz0 hz1 hz2 rfl (by decide) _ _ _ rfl ((hrow.alloc _).alloc _) _ 1 1 [.slice (some ⟨wr.heap.size, 0, none⟩) 3 3] rfl rfl (cell_new1 _ _ _ _ (by simp)) (fun x hx => by simp at hx; subst hx; rfl) (by unfold maxLen; omega) (by omega) (by simp; omega) ?_; intro v' w3 hr3 hg3 hnil'))
          go_roundw
          case rel =>
            refine ⟨k + 1, gs ++ [wr.heap.size], by omega, by go_num, ?_, ?_⟩
            · rw [HST.out, if_neg c1, if_neg HC.out]
              refine HY.out.snoc (Nat.le_refl _) ((by repeat (first | exact Ext.refl _ | assumption | refine Ext.alloc ?_ _ | refine Ext.drew ?_ | refine Ext.drewN ?_ _ | refine Ext.setCell ?_ (by first | exact Nat.le_refl _ | (simp; done) | (dsimp only; omega) | (simp only [World.size_alloc, World.size_setCell]; omega)) _ | refine Ext.trans ?_ (by assumption))) : Ext wr _) ?_ hr3 hg3
              have hl := World.ownsRow_lit (base := w1.heap.size) (e := 3) (size := 1) wr #[.int .i64 x, .int .i64 (k : Int), .int .i64 ((k : Int) + 1)] 3 hE.size (by simp [maxLen]) rfl
              exact hl.alloc _
            · exact ext_append ((hE.alloc _).alloc _) ((hrow.alloc _).alloc _) (Nat.le_refl _) hg3
          case measure => simp [intOf]; omega
        · obtain ⟨G, rfl, hG1, hG2⟩ := hG.resolve_left c2
          obtain ⟨p, hp⟩ : ∃ p, gs.length = p + 1 := ⟨gs.length - 1, by omega⟩
          have hrow := hY.row
          have s1 := hY.at_ (i := p) (by omega) rfl
          have s2 := hY.icell (i := p) (j := 2) (by omega) (by omega)
          have s3 := hY.icell (i := p) (j := 0) (by omega) (by omega)
          have f2 := hY.ifree (i := p) (by omega) 2
          have hY2 := hY.set (i := p) (by omega) 2 ((k : Int) + 1)
          have hil := hY.inlen (i := p) (by omega)
          have hib := (hY.inlt p (by omega)).1
          obtain ⟨b, hb⟩ : ∃ b, b = gs.getD p 0 := ⟨_, rfl⟩
          rw [← hb] at s1 s2 s3 f2 hY2 hib
          obtain ⟨e2, he2⟩ : ∃ e, e = (Y.getD p []).getD 2 0 := ⟨_, rfl⟩
          obtain ⟨e0, he0⟩ : ∃ e, e = (Y.getD p []).getD 0 0 := ⟨_, rfl⟩
          rw [← he2] at s2
          rw [← he0] at s3
          have HYL := hid (show Y.length = p + 1 by have := HLE.out; omega)
          have HE2 := hid he2
          have HE0 := hid he0
          have HY := hid hY
          have HY2 := hid hY2
          have HP := hid hp
          have HIL := hid hil
          have hEs := hE.size
          rw [hp] at hnc hgl hrow ⊢
          clear hb hY hY2 he2 he0 hil hp c2
          by_cases c3 : e0 = x
          · have c3b : (e0 == x) = true := by simpa using c3
            by_cases c4 : e2 = (k : Int)
            · have c4b : (e2 == (k : Int)) = true := by simpa using c4
              have HC := hid (show 0 < Y.length ∧ (Y.getD (Y.length - 1) []).getD 0 0 = x ∧ (Y.getD (Y.length - 1) []).getD 2 0 = (k : Int) by
                rw [HYL.out, Nat.add_sub_cancel, ← HE0.out, ← HE2.out]; exact ⟨by omega, c3, c4⟩)
              clear c3 c4
              go_wp2_with (fail)
              go_roundw
              case rel =>
                refine ⟨k + 1, gs, by omega, by go_num, ?_, hE.setCell hib _⟩
                rw [HST.out, if_neg c1, if_pos HC.out]
                have e1 : Y.length - 1 = p := by have := HYL.out; omega
                rw [e1]
                have hl3 := HIL.out
                have e3 : [(Y.getD p []).getD 0 0, (Y.getD p []).getD 1 0, (k : Int) + 1] = (Y.getD p []).set 2 ((k : Int) + 1) := by
                  match Y.getD p [], hl3 with
                  | [a0, a1, a2], _ => rfl
                rw [e3, show p + 1 = gs.length from HP.out.symm]
                exact HY2.out
              case measure => simp [intOf]; omega
            · have c4b : (e2 == (k : Int)) = false := by simpa using c4
              have HC := hid (show ¬ (0 < Y.length ∧ (Y.getD (Y.length - 1) []).getD 0 0 = x ∧ (Y.getD (Y.length - 1) []).getD 2 0 = (k : Int)) by
                rw [HYL.out, Nat.add_sub_cancel, ← HE0.out, ← HE2.out]; exact fun hh => c4 hh.2.2)
              clear c3 c4
              go_wp2_with (first | (at_builtin; refine wpList_append_own _ rfl _ _ 44 rfl w1.heap.size 38 i0 _ _ _ Try.underlying44 hi hz0 hz1 hz2 rfl (by decide) _ _ _ rfl ((hrow.alloc _).alloc _) _ 1 1 [.slice (some ⟨wr.heap.size, 0, none⟩) 3 3] rfl rfl (cell_new1 _ _ _ _ (by simp)) (fun x hx => by simp at hx; subst hx; rfl) (by unfold maxLen; omega) (by omega) (by simp; omega) ?_; intro v' w3 hr3 hg3 hnil'))
              go_roundw
              case rel =>
                refine ⟨k + 1, gs ++ [wr.heap.size], by omega, by go_num, ?_, ?_⟩
                · rw [HST.out, if_neg c1, if_neg HC.out]
                  refine HY.out.snoc (Nat.le_refl _) ((by repeat (first | exact Ext.refl _ | assumption | refine Ext.alloc ?_ _ | refine Ext.drew ?_ | refine Ext.drewN ?_ _ | refine Ext.setCell ?_ (by first | exact Nat.le_refl _ | (simp; done) | (dsimp only; omega) | (simp only [World.size_alloc, World.size_setCell]; omega)) _ | refine Ext.trans ?_ (by assumption))) : Ext wr _) ?_ (by rw [HP.out]; exact hr3) hg3
                  have hl := World.ownsRow_lit (base := w1.heap.size) (e := 3) (size := 1) wr #[.int .i64 x, .int .i64 (k : Int), .int .i64 ((k : Int) + 1)] 3 hE.size (by simp [maxLen]) rfl
                  exact hl.alloc _
                · exact ext_append ((hE.alloc _).alloc _) ((hrow.alloc _).alloc _) (Nat.le_refl _) hg3
              case measure => simp [intOf]; omega
          · have c3b : (e0 == x) = false := by simpa using c3
            have HC := hid (show ¬ (0 < Y.length ∧ (Y.getD (Y.length - 1) []).getD 0 0 = x ∧ (Y.getD (Y.length - 1) []).getD 2 0 = (k : Int)) by
                rw [HYL.out, Nat.add_sub_cancel, ← HE0.out, ← HE2.out]; exact fun hh => c3 hh.2.1)
            clear c3
            go_wp2_with (first | (at_builtin; refine wpList_append_own _ rfl _ _ 44 rfl w1.heap.size 38 i0 _ _ _ Try.underlying44 hi hz0 hz1 hz2 rfl (by decide) _ _ _ rfl ((hrow.alloc _).alloc _) _ 1 1 [.slice (some ⟨wr.heap.size, 0, none⟩) 3 3] rfl rfl (cell_new1 _ _ _ _ (by simp)) (fun x hx => by simp at hx; subst hx; rfl) (by unfold maxLen; omega) (by omega) (by simp; omega) ?_; intro v' w3 hr3 hg3 hnil'))
            go_roundw
            case rel =>
              refine ⟨k + 1, gs ++ [wr.heap.size], by omega, by go_num, ?_, ?_⟩
              · rw [HST.out, if_neg c1, if_neg HC.out]
                refine HY.out.snoc (Nat.le_refl _) ((by repeat (first | exact Ext.refl _ | assumption | refine Ext.alloc ?_ _ | refine Ext.drew ?_ | refine Ext.drewN ?_ _ | refine Ext.setCell ?_ (by first | exact Nat.le_refl _ | (simp; done) | (dsimp only; omega) | (simp only [World.size_alloc, World.size_setCell]; omega)) _ | refine Ext.trans ?_ (by assumption))) : Ext wr _) ?_ (by rw [HP.out]; exact hr3) hg3
                have hl := World.ownsRow_lit (base := w1.heap.size) (e := 3) (size := 1) wr #[.int .i64 x, .int .i64 (k : Int), .int .i64 ((k : Int) + 1)] 3 hE.size (by simp [maxLen]) rfl
                exact hl.alloc _
              · exact ext_append ((hE.alloc _).alloc _) ((hrow.alloc _).alloc _) (Nat.le_refl _) hg3
            case measure => simp [intOf]; omega
    · obtain rfl : N = k := by omega
      have HY := hid hY
      clear hY
      go_wp2_with (fail)
      go_ret
      refine ⟨_, gs, rfl, ?_, hb1.trans hE⟩
      unfold segJ
      rw [← HNN.out]
      exact HY.out.mono hb1.size
end Go.Proofs.Ytabafhmeefeioaa
