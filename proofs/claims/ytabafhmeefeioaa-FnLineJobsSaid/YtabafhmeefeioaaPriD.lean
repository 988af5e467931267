/- The chapter of priorities: the program's own run returns the plain run's ticks. Conditions: the jobs are valid (okJs). -/
import Derived.Test.YtabafhmeefeioaaPriC
namespace Go.Proofs.Ytabafhmeefeioaa
open Go.RowKit
set_option linter.unusedSimpArgs false
set_option linter.unusedVariables false

set_option maxRecDepth 100000 in
set_option maxHeartbeats 1600000 in
theorem sentTicks_any (v : Value) (n : Nat) (z : List Int) (w : World) (h : IntRow .i64 3 w v n z) (hok : okJs z n = true) :
    Calls Try.prog 65 #[v] w fun e w' => ∃ v', e = .returned v' ∧ w'.ownsRow w.heap.size 3 1 v' (endT z n) ((ticks z n).map (Value.int .i64)) ∧ Ext w w' := by
  obtain ⟨i0, hi, hz0, hz1, hz2⟩ := info_parts info_Int
  have hn := okJs_n hok
  have HOK := hid hok
  clear hok
  obtain ⟨hl, hm, hwf, a, c, rfl, hnc, hcm, hcell⟩ := h
  clear hwf
  go_enter Try.func65, Try.ntmps65
  go_wp2_with (first | (at_make; refine wpList_make_full _ rfl _ _ 38 rfl w.heap.size 3 i0 _ 1 Try.underlying38 hi hz0 hz1 .i64 .i64 _ _ n rfl rfl rfl rfl (by rw [hz2]; omega) (by unfold maxLen; omega) (Nat.le_refl _) ?_; intro w1 hown hgrow))
  have hE1 : Ext w w1 := (Ext.refl _).of_grown hgrow
  go_loopw [4, 17] (fun s i wr => ∃ (k : Nat) (xs : List Value), k ≤ n ∧ i = .int .i64 (k : Int) ∧ s = .int .i64 (lens z k).sum ∧ wr.ownsRow w.heap.size 3 1 (.slice (some ⟨w.heap.size, 0, none⟩) n n) n xs ∧ (∀ j, j < k → xs[j]? = some (.int .i64 (jLen z j))) ∧ Ext w wr)
    (fun _ i _ => n - (intOf i).toNat)
  case atStart => exact ⟨0, _, Nat.zero_le _, rfl, rfl, hown, fun j hj => absurd hj (by omega), hE1⟩
  case round =>
    clear hown hgrow hE1
    obtain ⟨k, xs, hk, rfl, rfl, hrow, hpre, hE⟩ := hrel
    have HP := hid hpre
    clear hpre
    by_cases hlt : k < n
    · obtain ⟨b, o, rfl, hb, hc⟩ := hcell.resolve_left (by omega)
      obtain ⟨x0, hx0⟩ : ∃ x, x = z.getD (k * 3) 0 := ⟨_, rfl⟩
      have s0 : wr.cell? ⟨b, o + k * 3, none⟩ = some (.int .i64 x0) := by rw [(Ext.cells hE).1 _ _ hb, show o + k * 3 = o + (k * 3) by omega, hc _ (by omega), hx0]
      have H0 := hid hx0
      clear hx0
      obtain ⟨x1, hx1⟩ : ∃ x, x = z.getD (k * 3 + 1) 0 := ⟨_, rfl⟩
      have s1 : wr.cell? ⟨b, o + k * 3 + 1, none⟩ = some (.int .i64 x1) := by rw [(Ext.cells hE).1 _ _ hb, show o + k * 3 + 1 = o + (k * 3 + 1) by omega, hc _ (by omega), hx1]
      have H1 := hid hx1
      clear hx1
      obtain ⟨x2, hx2⟩ : ∃ x, x = z.getD (k * 3 + 2) 0 := ⟨_, rfl⟩
      have s2 : wr.cell? ⟨b, o + k * 3 + 2, none⟩ = some (.int .i64 x2) := by rw [(Ext.cells hE).1 _ _ hb, show o + k * 3 + 2 = o + (k * 3 + 2) by omega, hc _ (by omega), hx2]
      have H2 := hid hx2
      clear hx2
      have hyb := job_bd HOK.out k hlt
      rw [show jLen z k = x1 from H1.out.symm] at hyb
      obtain ⟨_, _, hy1, hy2, _, _⟩ := hyb
      have hs1 : 0 ≤ (lens z k).sum := sum_nonneg _ fun x hx => by
        simp only [lens, List.mem_map, List.mem_range] at hx
        obtain ⟨i, hi, rfl⟩ := hx
        have := job_bd HOK.out i (by omega)
        omega
      have hs2 : (lens z k).sum ≤ 40 * k := by
        have := sum_le 40 (lens z k) fun x hx => by
          simp only [lens, List.mem_map, List.mem_range] at hx
          obtain ⟨i, hi, rfl⟩ := hx
          have := job_bd HOK.out i (by omega)
          omega
        rwa [lens_length] at this
      obtain ⟨q, hq⟩ : ∃ q, q = (lens z k).sum := ⟨_, rfl⟩
      rw [← hq] at hs1 hs2 ⊢
      have HQ := hid hq
      obtain ⟨u0, c0, d0⟩ := row_cell hrow k (by omega)
      have f0 := hrow.frozenAt k
      have hgs : w.heap.size < wr.heap.size := (hrow.lt _ rfl).2
      clear hq hcell hc
      go_wp2_with (fail)
      go_roundw
      case rel =>
        refine ⟨k + 1, _, by omega, by go_num, ?_, ((hrow.stored k (.int .i64 x1)).1.alloc _), fun j hj => ?_, (by repeat (first | exact Ext.refl _ | assumption | refine Ext.alloc ?_ _ | refine Ext.drew ?_ | refine Ext.drewN ?_ _ | refine Ext.setCell ?_ (by first | exact Nat.le_refl _ | (simp; done) | (dsimp only; omega) | (simp only [World.size_alloc, World.size_setCell]; omega)) _ | refine Ext.trans ?_ (by assumption)))⟩
        · rw [lens_succ, List.sum_append, HQ.out, show jLen z k = x1 from H1.out.symm]
          simp
        · rw [List.getElem?_set]
          by_cases e : k = j
          · subst e
            rw [if_pos rfl, if_pos (by rw [hrow.1]; omega), show jLen z k = x1 from H1.out.symm]
          · rw [if_neg e]
            exact HP.out j (by omega)
      case measure => simp [intOf]; omega
    · obtain rfl : n = k := by omega
      have hxs : xs = (stL z n 0).map (Value.int .i64) := list_full hrow.1 (by simp [stL, lens]) fun j hj => by rw [HP.out j (by omega)]; simp [stL, lens, show j < n by omega]
      have HX := hid hxs
      clear hxs hlt hk
      go_wp2_with (fail)
      obtain ⟨wo, rfl⟩ : ∃ wo : World, wo = wr := ⟨_, rfl⟩
      go_loopw [4, 7, 8] (fun s vo tt wx => ∃ (t : Nat), tt = .int .i64 (t : Int) ∧ s = .int .i64 (stS z n t) ∧ (∀ j, j < t → 0 < stS z n j) ∧ wx.ownsRow (w.heap.size + 1) 3 1 vo t ((stO z n t).map (Value.int .i64)) ∧
          wx.ownsRow w.heap.size 3 1 (.slice (some ⟨w.heap.size, 0, none⟩) n n) n ((stL z n t).map (Value.int .i64)) ∧ Ext w wx)
        (fun s _ tt _ => (intOf s).toNat + (200 - (intOf tt).toNat))
      case atStart => exact ⟨0, rfl, rfl, fun j hj => absurd hj (by omega), World.ownsRow_nil _ _ _ _, by rw [← HX.out]; exact hrow, hE⟩
      case round =>
        clear hrow hE HP HX
        obtain ⟨t, rfl, rfl, hpos, hrO, hrL, hE⟩ := hrel
        have HP := hid hpos
        obtain ⟨i1, i2, i3⟩ := st_inv HOK.out t
        have sb := stS_bd HOK.out t
        have tb := st_t HOK.out hpos
        clear hpos
        by_cases hs : 0 < stS z n t
        · have hs' : ∀ j, j < t + 1 → 0 < stS z n j := fun j hj => by
            by_cases e : j = t
            · subst e; exact hs
            · exact HP.out j (by omega)
          have tb1 := st_t HOK.out hs'
          have HP' := hid hs'
          clear hs'
          have hk0 : 0 < n := by
            obtain ⟨i, hi, _⟩ := sum_pos _ (i3.symm ▸ hs)
            omega
          obtain ⟨b, o, rfl, hb0, hc0⟩ := hcell.resolve_left (by omega)
          have rm : roundM z n (t + 1) < roundM z n t := roundM_lt HOK.out t hs
          unfold roundM at rm
          have I2 := hid i2
          have I1 := hid i1
          clear i1 i2 i3 hcell
          obtain ⟨s, hsq⟩ : ∃ s, s = stS z n t := ⟨_, rfl⟩
          rw [← hsq] at hs sb rm ⊢
          have HS := hid hsq
          clear hsq
          have HC0 := hid hc0
          clear hc0
          go_wp2_with (fail)
          obtain ⟨wo2, rfl⟩ : ∃ wo2 : World, wo2 = wr := ⟨_, rfl⟩
          obtain ⟨left, hleft⟩ : ∃ l, l = stL z n t := ⟨_, rfl⟩
          rw [← hleft] at hrL
          have I2' := I2.out
          have I1' := I1.out
          rw [← hleft] at I1' I2'
          have hgs : w.heap.size < wo2.heap.size := (hrL.lt _ rfl).2
          have hb : b < wo2.heap.size := Nat.lt_of_lt_of_le hb0 hE.size
          have HC : Hid (∀ j, j < n * 3 → wo2.cell? ⟨b, o + j, none⟩ = some (.int .i64 (z.getD j 0))) := hid (fun j hj => by rw [(Ext.cells hE).1 _ _ hb0]; exact HC0.out j hj)
          have HLc : Hid (∀ j, j < n → wo2.cell? ⟨w.heap.size, j, none⟩ = some (.int .i64 (left.getD j 0))) := hid (fun j hj => by rw [hrL.cellAt j (by omega), map_getD (by omega)])
          have HLEFT := hid hleft
          have HI := hid (And.intro I1' I2')
          clear I1' I2' hleft
          go_loopw [9, 38] (fun best i wr => ∃ (k : Nat), k ≤ n ∧ i = .int .i64 (k : Int) ∧ best = .int .i64 (bestN z left (t : Int) k) ∧ Ext wo2 wr)
            (fun _ i _ => n - (intOf i).toNat)
          case atStart => exact ⟨0, Nat.zero_le _, rfl, rfl, Ext.refl _⟩
          case round =>
            have hE0 := hE
            have hrO0 := hrO
            have hrL0 := hrL
            clear hE hrO hrL
            obtain ⟨k, hk, rfl, rfl, hE⟩ := hrel
            by_cases hlt : k < n
            · have hc := HC.out
              obtain ⟨x0, hx0⟩ : ∃ x, x = z.getD (k * 3) 0 := ⟨_, rfl⟩
              have s0 : wr.cell? ⟨b, o + k * 3, none⟩ = some (.int .i64 x0) := by rw [(Ext.cells hE).1 _ _ hb, show o + k * 3 = o + (k * 3) by omega, hc _ (by omega), hx0]
              have H0 := hid hx0
              clear hx0
              obtain ⟨x1, hx1⟩ : ∃ x, x = z.getD (k * 3 + 1) 0 := ⟨_, rfl⟩
              have s1 : wr.cell? ⟨b, o + k * 3 + 1, none⟩ = some (.int .i64 x1) := by rw [(Ext.cells hE).1 _ _ hb, show o + k * 3 + 1 = o + (k * 3 + 1) by omega, hc _ (by omega), hx1]
              have H1 := hid hx1
              clear hx1
              obtain ⟨x2, hx2⟩ : ∃ x, x = z.getD (k * 3 + 2) 0 := ⟨_, rfl⟩
              have s2 : wr.cell? ⟨b, o + k * 3 + 2, none⟩ = some (.int .i64 x2) := by rw [(Ext.cells hE).1 _ _ hb, show o + k * 3 + 2 = o + (k * 3 + 2) by omega, hc _ (by omega), hx2]
              have H2 := hid hx2
              clear hx2
              have hbr : b < wr.heap.size := Nat.lt_of_lt_of_le hb hE.size
              have hbr' : w.heap.size < wr.heap.size := Nat.lt_of_lt_of_le hgs hE.size
              obtain ⟨y, hy⟩ : ∃ y, y = left.getD k 0 := ⟨_, rfl⟩
              have sy : wr.cell? ⟨w.heap.size, k, none⟩ = some (.int .i64 y) := by rw [(Ext.cells hE).1 _ _ hgs, HLc.out k hlt, hy]
              have HY := hid hy
              clear hy hc hrO0 hrL0 hE0
              obtain ⟨r1, r2, _⟩ := bestN_range z left (t : Int) k
              obtain ⟨q, hq⟩ : ∃ q, q = bestN z left (t : Int) k := ⟨_, rfl⟩
              have E := hid hq.symm
              rw [← hq] at r1 r2 ⊢
              clear hq
              by_cases hA : x0 ≤ (t : Int)
              · by_cases hy : y = 0
                · have hy2 : (y == 0) = true := by simpa using hy
                  have hw : waitsB z left (t : Int) k = false := by unfold waitsB; rw [show left.getD k 0 = y from HY.out.symm, hy2]; simp
                  have HW := hid hw
                  clear hw hy
                  go_wp2_with (fail)
                  go_roundw
                  case rel =>
                    refine ⟨k + 1, by omega, by go_num, ?_, (by repeat (first | exact Ext.refl _ | assumption | refine Ext.alloc ?_ _ | refine Ext.drew ?_ | refine Ext.drewN ?_ _ | refine Ext.setCell ?_ (by first | exact Nat.le_refl _ | (simp; done) | (dsimp only; omega) | (simp only [World.size_alloc, World.size_setCell]; omega)) _ | refine Ext.trans ?_ (by assumption)))⟩
                    rw [bestN, E.out]
                    rw [if_neg (by rw [HW.out]; decide)]
                  case measure => simp [intOf]; omega
                · have hy2 : (y == 0) = false := by simpa using hy
                  have hw : waitsB z left (t : Int) k = true := by unfold waitsB; rw [show left.getD k 0 = y from HY.out.symm, hy2, show jAt z k = x0 from H0.out.symm]; simpa using hA
                  have HW := hid hw
                  clear hw hy
                  by_cases hq : q < 0
                  · have ht : takes z k q = true := by unfold takes; simp [hq]
                    have HT := hid ht
                    clear ht
                    have hq2 : decide (q < 0) = true := by simpa using hq
                    go_wp2_with (fail)
                    go_quiet (fail)
                    go_wp2_with (fail)
                    go_roundw
                    case rel =>
                      refine ⟨k + 1, by omega, by go_num, ?_, (by repeat (first | exact Ext.refl _ | assumption | refine Ext.alloc ?_ _ | refine Ext.drew ?_ | refine Ext.drewN ?_ _ | refine Ext.setCell ?_ (by first | exact Nat.le_refl _ | (simp; done) | (dsimp only; omega) | (simp only [World.size_alloc, World.size_setCell]; omega)) _ | refine Ext.trans ?_ (by assumption)))⟩
                      rw [bestN, E.out]
                      rw [if_pos HW.out, if_pos HT.out]
                    case measure => simp [intOf]; omega
                  · obtain ⟨m, hm2⟩ := Int.eq_ofNat_of_zero_le (show 0 ≤ q by omega)
                    have hmk : m < k := by omega
                    obtain ⟨pm, hpm⟩ : ∃ x, x = jPr z m := ⟨_, rfl⟩
                    obtain ⟨am, ham⟩ : ∃ x, x = jAt z m := ⟨_, rfl⟩
                    have c0 : wr.cell? ⟨b, o + m * 3, none⟩ = some (.int .i64 am) := by rw [(Ext.cells hE).1 _ _ hb, show o + m * 3 = o + (m * 3) by omega, HC.out _ (by omega), ham]; rfl
                    have c2 : wr.cell? ⟨b, o + m * 3 + 2, none⟩ = some (.int .i64 pm) := by rw [(Ext.cells hE).1 _ _ hb, show o + m * 3 + 2 = o + (m * 3 + 2) by omega, HC.out _ (by omega), hpm]; rfl
                    subst hm2
                    have e1 : takes z k (m : Int) = (decide (pm < x2) || (x2 == pm && decide (x0 < am))) := by unfold takes; rw [show ((m : Nat) : Int).toNat = m by omega, hpm, ham, show jPr z k = x2 from H2.out.symm, show jAt z k = x0 from H0.out.symm, show decide (((m : Nat) : Int) < 0) = false by simp, Bool.false_or]
                    have E1 := hid e1
                    clear e1 hpm ham hq
                    have hq2 : decide ((m : Int) < 0) = false := by simp
                    by_cases p1 : pm < x2
                    · have p1b : decide (pm < x2) = true := by simpa using p1
                      have HT := hid (show takes z k (m : Int) = true by rw [E1.out, p1b]; rfl)
                      clear p1
                      go_wp2_with (fail)
                      go_quiet (fail)
                      go_wp2_with (fail)
                      go_roundw
                      case rel =>
                        refine ⟨k + 1, by omega, by go_num, ?_, (by repeat (first | exact Ext.refl _ | assumption | refine Ext.alloc ?_ _ | refine Ext.drew ?_ | refine Ext.drewN ?_ _ | refine Ext.setCell ?_ (by first | exact Nat.le_refl _ | (simp; done) | (dsimp only; omega) | (simp only [World.size_alloc, World.size_setCell]; omega)) _ | refine Ext.trans ?_ (by assumption)))⟩
                        rw [bestN, E.out]
                        rw [if_pos HW.out, if_pos HT.out]
                      case measure => simp [intOf]; omega
                    · have p1b : decide (pm < x2) = false := by simpa using p1
                      by_cases p2 : x2 = pm
                      · have p2b : (x2 == pm) = true := by simpa using p2
                        clear p1
                        by_cases p3 : x0 < am
                        · have p3b : decide (x0 < am) = true := by simpa using p3
                          have HT := hid (show takes z k (m : Int) = true by rw [E1.out, p1b, p2b, p3b]; rfl)
                          clear p2 p3
                          go_wp2_with (fail)
                          go_quiet (fail)
                          go_wp2_with (fail)
                          go_roundw
                          case rel =>
                            refine ⟨k + 1, by omega, by go_num, ?_, (by repeat (first | exact Ext.refl _ | assumption | refine Ext.alloc ?_ _ | refine Ext.drew ?_ | refine Ext.drewN ?_ _ | refine Ext.setCell ?_ (by first | exact Nat.le_refl _ | (simp; done) | (dsimp only; omega) | (simp only [World.size_alloc, World.size_setCell]; omega)) _ | refine Ext.trans ?_ (by assumption)))⟩
                            rw [bestN, E.out]
                            rw [if_pos HW.out, if_pos HT.out]
                          case measure => simp [intOf]; omega
                        · have p3b : decide (x0 < am) = false := by simpa using p3
                          have HT := hid (show ¬ takes z k (m : Int) = true by rw [E1.out, p1b, p2b, p3b]; simp)
                          clear p2 p3
                          go_wp2_with (fail)
                          go_quiet (fail)
                          go_wp2_with (fail)
                          go_roundw
                          case rel =>
                            refine ⟨k + 1, by omega, by go_num, ?_, (by repeat (first | exact Ext.refl _ | assumption | refine Ext.alloc ?_ _ | refine Ext.drew ?_ | refine Ext.drewN ?_ _ | refine Ext.setCell ?_ (by first | exact Nat.le_refl _ | (simp; done) | (dsimp only; omega) | (simp only [World.size_alloc, World.size_setCell]; omega)) _ | refine Ext.trans ?_ (by assumption)))⟩
                            rw [bestN, E.out]
                            rw [if_pos HW.out, if_neg HT.out]
                          case measure => simp [intOf]; omega
                      · have p2b : (x2 == pm) = false := by simpa using p2
                        have HT := hid (show ¬ takes z k (m : Int) = true by rw [E1.out, p1b, p2b]; simp)
                        clear p1 p2
                        go_wp2_with (fail)
                        go_quiet (fail)
                        go_wp2_with (fail)
                        go_roundw
                        case rel =>
                          refine ⟨k + 1, by omega, by go_num, ?_, (by repeat (first | exact Ext.refl _ | assumption | refine Ext.alloc ?_ _ | refine Ext.drew ?_ | refine Ext.drewN ?_ _ | refine Ext.setCell ?_ (by first | exact Nat.le_refl _ | (simp; done) | (dsimp only; omega) | (simp only [World.size_alloc, World.size_setCell]; omega)) _ | refine Ext.trans ?_ (by assumption)))⟩
                          rw [bestN, E.out]
                          rw [if_pos HW.out, if_neg HT.out]
                        case measure => simp [intOf]; omega
              · have hw : waitsB z left (t : Int) k = false := by unfold waitsB; rw [show jAt z k = x0 from H0.out.symm]; simp; omega
                have HW := hid hw
                clear hw
                go_wp2_with (fail)
                go_roundw
                case rel =>
                  refine ⟨k + 1, by omega, by go_num, ?_, (by repeat (first | exact Ext.refl _ | assumption | refine Ext.alloc ?_ _ | refine Ext.drew ?_ | refine Ext.drewN ?_ _ | refine Ext.setCell ?_ (by first | exact Nat.le_refl _ | (simp; done) | (dsimp only; omega) | (simp only [World.size_alloc, World.size_setCell]; omega)) _ | refine Ext.trans ?_ (by assumption)))⟩
                  rw [bestN, E.out]
                  rw [if_neg (by rw [HW.out]; decide)]
                case measure => simp [intOf]; omega
            · obtain rfl : n = k := by omega
              clear hlt hk
              have hrO2 := row_ext hrO0 hE
              have hrL2 := row_ext hrL0 hE
              have hE2 : Ext w wr := hE0.trans hE
              have hsz2 := hE.size
              have hgr2 : w.heap.size < wr.heap.size := Nat.lt_of_lt_of_le hgs hsz2
              obtain ⟨q, hq⟩ : ∃ q, q = bestN z left (t : Int) n := ⟨_, rfl⟩
              obtain ⟨qr1, qr2, _⟩ := bestN_range z left (t : Int) n
              rw [← hq] at qr1 qr2 ⊢
              have HQ : Hid (tickB z n t = q) := hid (by rw [hq, HLEFT.out]; rfl)
              clear hq hrO0 hrL0 hE0
              by_cases hq0 : 0 ≤ q
              · obtain ⟨m, rfl⟩ := Int.eq_ofNat_of_zero_le hq0
                obtain ⟨x, hx⟩ : ∃ x, x = left.getD m 0 := ⟨_, rfl⟩
                have hxb := HI.out.2 _ (getD_mem (show m < left.length by rw [HI.out.1]; omega))
                rw [← hx] at hxb
                obtain ⟨hx1, hx2⟩ := hxb
                have sx : wr.cell? ⟨w.heap.size, m, none⟩ = some (.int .i64 x) := by rw [hrL2.cellAt m (by omega), map_getD (by rw [HI.out.1]; omega), hx]
                have fx := hrL2.frozenAt m
                have HX := hid hx
                have Hst := hid (stL_pos HQ.out)
                have hrO3 := ownsRow_setCell_below (a := ⟨w.heap.size, m, none⟩) hrO2 (by simp) (.int .i64 (x - 1))
                have hrL3 := (hrL2.stored m (.int .i64 (x - 1))).1
                have hE3 : Ext w (wr.setCell ⟨w.heap.size, m, none⟩ (.int .i64 (x - 1))) := hE2.setCell (Nat.le_refl _) _
                clear hx
                go_wp2_with (first | (at_builtin; refine wpList_append_own _ rfl _ _ 38 rfl (w.heap.size + 1) 3 i0 _ _ _ Try.underlying38 hi hz0 hz1 hz2 rfl (by decide) _ _ _ rfl (hrO3.alloc _) _ 1 1 [.int .i64 (m : Int)] rfl rfl (cell_new1 _ _ _ _ (by simp)) (fun x hx => by simp at hx; subst hx; rfl) (by unfold maxLen; omega) (by omega) (by simp; omega) ?_; intro v' w3 hrO4 hgr4 hnil'))
                go_roundw
                case rel =>
                  refine ⟨t + 1, by go_num, ?_, HP'.out, ?_, ?_, ext_append (hE3.alloc _) (hrO3.alloc _) (by omega) hgr4⟩
                  · rw [Hst.out.2, HS.out]
                  · rw [stO_succ, int_map_append, HQ.out]
                    exact hrO4
                  · rw [Hst.out.1, List.map_set, ← HLEFT.out, ← HX.out]
                    exact row_below (B := w.heap.size + 1) (hrL3.alloc _) (fun j hj => by simp [Value.ownBlock] at hj; omega) hgr4 (fun j hj => (hrO3.lt j hj).1)
                case measure =>
                  rw [Hst.out.2, ← HS.out] at rm
                  simp only [intOf]
                  omega
              · have Hst := hid (stL_neg (z := z) (n := n) (t := t) (by rw [HQ.out]; exact hq0))
                go_wp2_with (first | (at_builtin; refine wpList_append_own _ rfl _ _ 38 rfl (w.heap.size + 1) 3 i0 _ _ _ Try.underlying38 hi hz0 hz1 hz2 rfl (by decide) _ _ _ rfl (hrO2.alloc _) _ 1 1 [.int .i64 q] rfl rfl (cell_new1 _ _ _ _ (by simp)) (fun x hx => by simp at hx; subst hx; rfl) (by unfold maxLen; omega) (by omega) (by simp; omega) ?_; intro v' w3 hrO4 hgr4 hnil'))
                go_roundw
                case rel =>
                  refine ⟨t + 1, by go_num, ?_, HP'.out, ?_, ?_, ext_append (hE2.alloc _) (hrO2.alloc _) (by omega) hgr4⟩
                  · rw [Hst.out.2, HS.out]
                  · rw [stO_succ, int_map_append, HQ.out]
                    exact hrO4
                  · rw [Hst.out.1, ← HLEFT.out]
                    exact row_below (B := w.heap.size + 1) (hrL2.alloc _) (fun j hj => by simp [Value.ownBlock] at hj; omega) hgr4 (fun j hj => (hrO2.lt j hj).1)
                case measure =>
                  rw [Hst.out.2, ← HS.out] at rm
                  simp only [intOf]
                  omega
        · have hT : endT z n = t := endT_eq z n t HP.out (by omega) (by omega)
          have HT := hid hT
          clear hT
          go_wp2_with (fail)
          go_ret
          refine ⟨_, rfl, ?_, hE⟩
          unfold ticks
          rw [HT.out]
          exact row_mono hrO (by omega)

end Go.Proofs.Ytabafhmeefeioaa