/- The chapter of priorities: the simulations of a line, of the reference and of the program, return the plain run. Conditions: the jobs are valid (okJs). -/
import Derived.Test.YtabafhmeefeioaaPriM
import Derived.Test.YtabafhmeefeioaaConvInt
namespace Go.Proofs.Ytabafhmeefeioaa
open Go.RowKit
set_option linter.unusedSimpArgs false
set_option linter.unusedVariables false


set_option maxHeartbeats 1600000 in
theorem prNext_any (v : Value) (n : Nat) (z : List Int) (vL : Value) (left : List Int) (t : Int) (w : World) (h : IntRow .i64 3 w v n z) (hL : IntRow .i64 1 w vL n left) :
    Calls Try.prog 80 #[v, vL, .int .i64 t] w fun e w' => e = .returned (.int .i64 (bestN z left t n)) ∧ Ext w w' := by
  obtain ⟨hl, hm, hwf, a, c, rfl, hnc, hcm, hcell⟩ := h
  obtain ⟨hl', _, _, a', c', rfl, hnc', hcm', hcell'⟩ := hL
  unfold maxLen at hm
  clear hwf
  go_enter Try.func80, Try.ntmps80
  go_wp2_with (fail)
  go_loopw [7, 12] (fun best i wr => ∃ (k : Nat), k ≤ n ∧ i = .int .i64 (k : Int) ∧ best = .int .i64 (bestN z left t k) ∧ Ext w wr)
    (fun _ i _ => n - (intOf i).toNat)
  case atStart => exact ⟨0, Nat.zero_le _, rfl, rfl, Ext.refl _⟩
  case round =>
    obtain ⟨k, hk, rfl, rfl, hE⟩ := hrel
    by_cases hlt : k < n
    · obtain ⟨b, o, rfl, hb, hc⟩ := hcell.resolve_left (by omega)
      obtain ⟨b', o', rfl, hb', hc'⟩ := hcell'.resolve_left (by omega)
      obtain ⟨x0, hx0⟩ : ∃ x, x = z.getD (k * 3) 0 := ⟨_, rfl⟩
      have s0 : wr.cell? ⟨b, o + k * 3, none⟩ = some (.int .i64 x0) := by rw [(Ext.cells hE).1 _ _ hb, show o + k * 3 = o + (k * 3) by omega, hc _ (by omega), hx0]
      have H0 := hid hx0
      clear hx0
      obtain ⟨x1, hx1⟩ : ∃ x, x = z.getD (k * 3 + 1) 0 := ⟨_, rfl⟩
      have s1 : wr.cell? ⟨b, o + k * 3 + 1, none⟩ = some (.int .i64 x1) := by rw [(Ext.cells hE).1 _ _ hb, show o + k * 3 + 1 = o + (k * 3 + 1) by omega, hc _ (by omega), hx1]
      have H1 := hid hx1
      clear hx1
      obtain ⟨x2, hx2⟩ : ∃ x, x = z.getD (k * 3 + 2) 0 := ⟨_, rfl⟩
      have s2 : wr.cell? ⟨b, o + k * 3 + 2, none⟩ = some (.int .i64 x2) := by rw [(Ext.cells hE).1 _ _ hb, show o + k * 3 + 2 = o + (k * 3 + 2) by omega, hc _ (by omega), hx2]
      have H2 := hid hx2
      clear hx2
      have hbr : b < wr.heap.size := Nat.lt_of_lt_of_le hb hE.size
      have hbr' : b' < wr.heap.size := Nat.lt_of_lt_of_le hb' hE.size
      obtain ⟨y, hy⟩ : ∃ y, y = left.getD k 0 := ⟨_, rfl⟩
      have sy : wr.cell? ⟨b', o' + k, none⟩ = some (.int .i64 y) := by rw [(Ext.cells hE).1 _ _ hb', hc' _ (by omega), hy]
      have HY := hid hy
      have HC := hid hc
      clear hy hc hcell hc' hcell'
      obtain ⟨r1, r2, _⟩ := bestN_range z left t k
      obtain ⟨q, hq⟩ : ∃ q, q = bestN z left t k := ⟨_, rfl⟩
      have E := hid hq.symm
      rw [← hq] at r1 r2 ⊢
      clear hq
      by_cases hA : x0 ≤ t
      · by_cases hy : y = 0
        · have hy2 : (y == 0) = true := by simpa using hy
          have hw : waitsB z left t k = false := by unfold waitsB; rw [show left.getD k 0 = y from HY.out.symm, hy2]; simp
          have HW := hid hw
          clear hw hy
          go_wp2_with (fail)
          go_roundw
          case rel =>
            refine ⟨k + 1, by omega, by go_num, ?_, (by repeat (first | exact Ext.refl _ | assumption | refine Ext.alloc ?_ _ | refine Ext.drew ?_ | refine Ext.drewN ?_ _ | refine Ext.setCell ?_ (by first | exact Nat.le_refl _ | (simp; done) | (dsimp only; omega) | (simp only [World.size_alloc, World.size_setCell]; omega)) _ | refine Ext.trans ?_ (by assumption)))⟩
            rw [bestN, E.out]
            rw [if_neg (by rw [HW.out]; decide)]
          case measure => simp [intOf]; omega
        · have hy2 : (y == 0) = false := by simpa using hy
          have hw : waitsB z left t k = true := by unfold waitsB; rw [show left.getD k 0 = y from HY.out.symm, hy2, show jAt z k = x0 from H0.out.symm]; simpa using hA
          have HW := hid hw
          clear hw hy
          by_cases hq : q < 0
          · have ht : takes z k q = true := by unfold takes; simp [hq]
            have HT := hid ht
            clear ht
            have hq2 : decide (q < 0) = true := by simpa using hq
            go_wp2_with (fail)
            go_quiet (fail)
            go_wp2_with (fail)
            go_roundw
            case rel =>
              refine ⟨k + 1, by omega, by go_num, ?_, (by repeat (first | exact Ext.refl _ | assumption | refine Ext.alloc ?_ _ | refine Ext.drew ?_ | refine Ext.drewN ?_ _ | refine Ext.setCell ?_ (by first | exact Nat.le_refl _ | (simp; done) | (dsimp only; omega) | (simp only [World.size_alloc, World.size_setCell]; omega)) _ | refine Ext.trans ?_ (by assumption)))⟩
              rw [bestN, E.out]
              rw [if_pos HW.out, if_pos HT.out]
            case measure => simp [intOf]; omega
          · obtain ⟨m, hm2⟩ := Int.eq_ofNat_of_zero_le (show 0 ≤ q by omega)
            have hmk : m < k := by omega
            obtain ⟨pm, hpm⟩ : ∃ x, x = jPr z m := ⟨_, rfl⟩
            obtain ⟨am, ham⟩ : ∃ x, x = jAt z m := ⟨_, rfl⟩
            have c0 : wr.cell? ⟨b, o + m * 3, none⟩ = some (.int .i64 am) := by rw [(Ext.cells hE).1 _ _ hb, show o + m * 3 = o + (m * 3) by omega, HC.out _ (by omega), ham]; rfl
            have c2 : wr.cell? ⟨b, o + m * 3 + 2, none⟩ = some (.int .i64 pm) := by rw [(Ext.cells hE).1 _ _ hb, show o + m * 3 + 2 = o + (m * 3 + 2) by omega, HC.out _ (by omega), hpm]; rfl
            subst hm2
            have e1 : takes z k (m : Int) = (decide (pm < x2) || (x2 == pm && decide (x0 < am))) := by unfold takes; rw [show ((m : Nat) : Int).toNat = m by omega, hpm, ham, show jPr z k = x2 from H2.out.symm, show jAt z k = x0 from H0.out.symm, show decide (((m : Nat) : Int) < 0) = false by simp, Bool.false_or]
            have E1 := hid e1
            clear e1 hpm ham hq
            have hq2 : decide ((m : Int) < 0) = false := by simp
            by_cases p1 : pm < x2
            · have p1b : decide (pm < x2) = true := by simpa using p1
              have HT := hid (show takes z k (m : Int) = true by rw [E1.out, p1b]; rfl)
              clear p1
              go_wp2_with (fail)
              go_quiet (fail)
              go_wp2_with (fail)
              go_roundw
              case rel =>
                refine ⟨k + 1, by omega, by go_num, ?_, (by repeat (first | exact Ext.refl _ | assumption | refine Ext.alloc ?_ _ | refine Ext.drew ?_ | refine Ext.drewN ?_ _ | refine Ext.setCell ?_ (by first | exact Nat.le_refl _ | (simp; done) | (dsimp only; omega) | (simp only [World.size_alloc, World.size_setCell]; omega)) _ | refine Ext.trans ?_ (by assumption)))⟩
                rw [bestN, E.out]
                rw [if_pos HW.out, if_pos HT.out]
              case measure => simp [intOf]; omega
            · have p1b : decide (pm < x2) = false := by simpa using p1
              by_cases p2 : x2 = pm
              · have p2b : (x2 == pm) = true := by simpa using p2
                clear p1
                by_cases p3 : x0 < am
                · have p3b : decide (x0 < am) = true := by simpa using p3
                  have HT := hid (show takes z k (m : Int) = true by rw [E1.out, p1b, p2b, p3b]; rfl)
                  clear p2 p3
                  go_wp2_with (fail)
                  go_quiet (fail)
                  go_wp2_with (fail)
                  go_roundw
                  case rel =>
                    refine ⟨k + 1, by omega, by go_num, ?_, (by repeat (first | exact Ext.refl _ | assumption | refine Ext.alloc ?_ _ | refine Ext.drew ?_ | refine Ext.drewN ?_ _ | refine Ext.setCell ?_ (by first | exact Nat.le_refl _ | (simp; done) | (dsimp only; omega) | (simp only [World.size_alloc, World.size_setCell]; omega)) _ | refine Ext.trans ?_ (by assumption)))⟩
                    rw [bestN, E.out]
                    rw [if_pos HW.out, if_pos HT.out]
                  case measure => simp [intOf]; omega
                · have p3b : decide (x0 < am) = false := by simpa using p3
                  have HT := hid (show ¬ takes z k (m : Int) = true by rw [E1.out, p1b, p2b, p3b]; simp)
                  clear p2 p3
                  go_wp2_with (fail)
                  go_quiet (fail)
                  go_wp2_with (fail)
                  go_roundw
                  case rel =>
                    refine ⟨k + 1, by omega, by go_num, ?_, (by repeat (first | exact Ext.refl _ | assumption | refine Ext.alloc ?_ _ | refine Ext.drew ?_ | refine Ext.drewN ?_ _ | refine Ext.setCell ?_ (by first | exact Nat.le_refl _ | (simp; done) | (dsimp only; omega) | (simp only [World.size_alloc, World.size_setCell]; omega)) _ | refine Ext.trans ?_ (by assumption)))⟩
                    rw [bestN, E.out]
                    rw [if_pos HW.out, if_neg HT.out]
                  case measure => simp [intOf]; omega
              · have p2b : (x2 == pm) = false := by simpa using p2
                have HT := hid (show ¬ takes z k (m : Int) = true by rw [E1.out, p1b, p2b]; simp)
                clear p1 p2
                go_wp2_with (fail)
                go_quiet (fail)
                go_wp2_with (fail)
                go_roundw
                case rel =>
                  refine ⟨k + 1, by omega, by go_num, ?_, (by repeat (first | exact Ext.refl _ | assumption | refine Ext.alloc ?_ _ | refine Ext.drew ?_ | refine Ext.drewN ?_ _ | refine Ext.setCell ?_ (by first | exact Nat.le_refl _ | (simp; done) | (dsimp only; omega) | (simp only [World.size_alloc, World.size_setCell]; omega)) _ | refine Ext.trans ?_ (by assumption)))⟩
                  rw [bestN, E.out]
                  rw [if_pos HW.out, if_neg HT.out]
                case measure => simp [intOf]; omega
      · have hw : waitsB z left t k = false := by unfold waitsB; rw [show jAt z k = x0 from H0.out.symm]; simp; omega
        have HW := hid hw
        clear hw
        go_wp2_with (fail)
        go_roundw
        case rel =>
          refine ⟨k + 1, by omega, by go_num, ?_, (by repeat (first | exact Ext.refl _ | assumption | refine Ext.alloc ?_ _ | refine Ext.drew ?_ | refine Ext.drewN ?_ _ | refine Ext.setCell ?_ (by first | exact Nat.le_refl _ | (simp; done) | (dsimp only; omega) | (simp only [World.size_alloc, World.size_setCell]; omega)) _ | refine Ext.trans ?_ (by assumption)))⟩
          rw [bestN, E.out]
          rw [if_neg (by rw [HW.out]; decide)]
        case measure => simp [intOf]; omega
    · obtain rfl : k = n := by omega
      clear hcell hcell'
      go_wp2_with (fail)
      go_ret
      exact ⟨rfl, hE⟩


theorem lens_succ (z : List Int) (k : Nat) : lens z (k + 1) = lens z k ++ [jLen z k] := by simp [lens, List.range_succ]
theorem lens_length (z : List Int) (k : Nat) : (lens z k).length = k := by simp [lens]
theorem int_map_append (l : List Int) (x : Int) : (l ++ [x]).map (Value.int .i64) = l.map (Value.int .i64) ++ [Value.int .i64 x] := by simp

set_option maxHeartbeats 800000 in
theorem prLengths_any (v : Value) (n : Nat) (z : List Int) (w : World) (h : IntRow .i64 3 w v n z) (hn : n ≤ 1048576) :
    Calls Try.prog 68 #[v] w fun e w' => ∃ v', e = .returned v' ∧ w'.ownsRow w.heap.size 3 1 v' n ((lens z n).map (Value.int .i64)) ∧ Ext w w' := by
  obtain ⟨i0, hi, hz0, hz1, hz2⟩ := info_parts info_Int
  obtain ⟨hl, hm, hwf, a, c, rfl, hnc, hcm, hcell⟩ := h
  clear hwf
  go_enter Try.func68, Try.ntmps68
  go_wp2_with (fail)
  go_loopw [3, 8] (fun out i wr => ∃ (k : Nat), k ≤ n ∧ i = .int .i64 (k : Int) ∧ wr.ownsRow w.heap.size 3 1 out k ((lens z k).map (Value.int .i64)) ∧ Ext w wr)
    (fun _ i _ => n - (intOf i).toNat)
  case atStart => exact ⟨0, Nat.zero_le _, rfl, World.ownsRow_nil _ _ _ _, Ext.refl _⟩
  case round =>
    obtain ⟨k, hk, rfl, hrow, hE⟩ := hrel
    by_cases hlt : k < n
    · obtain ⟨b, o, rfl, hb, hc⟩ := hcell.resolve_left (by omega)
      obtain ⟨x0, hx0⟩ : ∃ x, x = z.getD (k * 3) 0 := ⟨_, rfl⟩
      have s0 : wr.cell? ⟨b, o + k * 3, none⟩ = some (.int .i64 x0) := by rw [(Ext.cells hE).1 _ _ hb, show o + k * 3 = o + (k * 3) by omega, hc _ (by omega), hx0]
      have H0 := hid hx0
      clear hx0
      obtain ⟨x1, hx1⟩ : ∃ x, x = z.getD (k * 3 + 1) 0 := ⟨_, rfl⟩
      have s1 : wr.cell? ⟨b, o + k * 3 + 1, none⟩ = some (.int .i64 x1) := by rw [(Ext.cells hE).1 _ _ hb, show o + k * 3 + 1 = o + (k * 3 + 1) by omega, hc _ (by omega), hx1]
      have H1 := hid hx1
      clear hx1
      obtain ⟨x2, hx2⟩ : ∃ x, x = z.getD (k * 3 + 2) 0 := ⟨_, rfl⟩
      have s2 : wr.cell? ⟨b, o + k * 3 + 2, none⟩ = some (.int .i64 x2) := by rw [(Ext.cells hE).1 _ _ hb, show o + k * 3 + 2 = o + (k * 3 + 2) by omega, hc _ (by omega), hx2]
      have H2 := hid hx2
      clear hx2
      clear hc hcell
      have hsz := hE.size
      go_wp2_with (first | (at_builtin; refine wpList_append_own _ rfl _ _ 38 rfl w.heap.size 3 i0 _ _ _ Try.underlying38 hi hz0 hz1 hz2 rfl (by decide) _ _ _ rfl ((hrow.alloc _).alloc _) _ 1 1 [.int .i64 x1] rfl rfl (cell_new1 _ _ _ _ (by simp)) (fun x hx => by simp at hx; subst hx; rfl) (by unfold maxLen; omega) (by omega) (by simp; omega) ?_; intro v' w3 hown' hgrow' hnil'))
      go_roundw
      case rel =>
        refine ⟨k + 1, by omega, by go_num, ?_, ext_append ((by repeat (first | exact Ext.refl _ | assumption | refine Ext.alloc ?_ _ | refine Ext.drew ?_ | refine Ext.drewN ?_ _ | refine Ext.setCell ?_ (by first | exact Nat.le_refl _ | (simp; done) | (dsimp only; omega) | (simp only [World.size_alloc, World.size_setCell]; omega)) _ | refine Ext.trans ?_ (by assumption))) : Ext w _) ((hrow.alloc _).alloc _) (Nat.le_refl _) hgrow'⟩
        rw [lens_succ, int_map_append, show jLen z k = x1 from H1.out.symm]
        exact hown'
      case measure => simp [intOf]; omega
    · obtain rfl : k = n := by omega
      clear hcell
      go_wp2_with (fail)
      go_ret
      exact ⟨_, rfl, hrow, hE⟩

end Go.Proofs.Ytabafhmeefeioaa