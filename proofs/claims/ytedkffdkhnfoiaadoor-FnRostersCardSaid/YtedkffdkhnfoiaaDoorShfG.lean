/- The chapter of shifts: short rests. No condition. -/
import Derived.Test.YtedkffdkhnfoiaaDoorShfE
import Derived.Test.YtedkffdkhnfoiaaDoorConvLists
namespace Go.Proofs.YtedkffdkhnfoiaaDoor
open Go.RowKit
set_option linter.unusedSimpArgs false
set_option linter.unusedVariables false

/-- the operator's next shift behind shift i -/
def nxt (z : List Int) (n i : Nat) : Option Nat := (List.range n).find? fun m => decide (i < m ∧ shOp z m = shOp z i)
theorem nxt_some {z : List Int} {n i k : Nat} (hk : k < n) (hi : i < k) (hP : shOp z k = shOp z i) (h : ∀ m, i < m → m < k → shOp z m ≠ shOp z i) : nxt z n i = some k := by
  unfold nxt
  rw [List.find?_range_eq_some]
  refine ⟨by simpa using ⟨hi, hP⟩, by simpa using hk, fun j hj => ?_⟩
  by_cases c : i < j
  · have := h j c hj
    simp [this]
  · simp [c]
theorem nxt_none {z : List Int} {n i : Nat} (h : ∀ m, i < m → m < n → shOp z m ≠ shOp z i) : nxt z n i = none := by
  unfold nxt
  rw [List.find?_range_eq_none]
  intro j hj
  by_cases c : i < j
  · have := h j c (by simpa using hj)
    simp [this]
  · simp [c]
def srZ (z : List Int) (n : Nat) (l : Int) : Nat → List (List Int)
  | 0 => []
  | i + 1 => match nxt z n i with
    | some k => if 0 < shFr z k - shTo z i ∧ shFr z k - shTo z i < l then srZ z n l i ++ [[(i : Int), (k : Int)]] else srZ z n l i
    | none => srZ z n l i
theorem srZ_inv (z : List Int) (n : Nat) (l : Int) : ∀ i, i ≤ n → (srZ z n l i).length ≤ i ∧ ∀ x ∈ srZ z n l i, ∃ a b : Int, x = [a, b] ∧ 0 ≤ a ∧ a < n ∧ 0 ≤ b ∧ b < n
  | 0, _ => by simp [srZ]
  | i + 1, hi => by
    obtain ⟨h1, h2⟩ := srZ_inv z n l i (by omega)
    rw [srZ]
    cases hx : nxt z n i with
    | none => exact ⟨by simp only; omega, h2⟩
    | some k =>
      have hk : k < n := by
        unfold nxt at hx
        have := List.mem_of_find?_eq_some hx
        simpa using this
      simp only
      split
      · refine ⟨by simp; omega, fun x hx => ?_⟩
        rcases List.mem_append.1 hx with hx | hx
        · exact h2 x hx
        · simp only [List.mem_singleton] at hx
          subst hx
          exact ⟨_, _, rfl, by omega, by omega, by omega, by omega⟩
      · exact ⟨by omega, h2⟩
def srC (z : List Int) (n : Nat) (l : Int) : Bool := okSs z n && inR l 0 168
def srV (z : List Int) (n : Nat) (l : Int) : List (List Int) := if srC z n l = true then srZ z n l n else []
theorem srV_inv (z : List Int) (n : Nat) (l : Int) : (srV z n l).length ≤ 1000 ∧ ∀ x ∈ srV z n l, ∀ y ∈ x, (Lit.int .i64 y).wf = true := by
  unfold srV
  by_cases h : srC z n l = true
  · rw [if_pos h]
    unfold srC at h
    rw [Bool.and_eq_true] at h
    have hn := okSs_n h.1
    obtain ⟨h1, h2⟩ := srZ_inv z n l n (Nat.le_refl _)
    refine ⟨by omega, fun x hx y hy => ?_⟩
    obtain ⟨a, b, rfl, h3⟩ := h2 x hx
    simp only [List.mem_cons, List.not_mem_nil, or_false] at hy
    rcases hy with rfl | rfl <;> exact small_wf (by omega) (by omega)
  · rw [if_neg h]
    simp

set_option maxRecDepth 100000 in
set_option maxHeartbeats 4000000 in
theorem sShortRests_any (v : Value) (n : Nat) (z : List Int) (l : Int) (w : World) (h : IntRow .i64 3 w v n z) :
    Calls Tryd.prog 18 #[v, .int .i64 l] w fun e w' => ∃ v' gs, e = .returned (.tuple #[v', .bool (srC z n l)]) ∧ Lists w' w.heap.size v' 2 gs (srV z n l) ∧ Ext w w' := by
  cases hok : okSs z n with
  | false =>
    have HOK := hid hok
    have hc : srC z n l = false := by unfold srC; rw [hok]; rfl
    rw [show srV z n l = [] by unfold srV; rw [hc]; rfl, hc]
    clear hok hc
    go_enter Tryd.func18, Tryd.ntmps18
    go_wp2_with (fail)
    refine (shGood_any v n z _ (h.ext (by repeat (first | exact Ext.refl _ | assumption | refine Ext.alloc ?_ _ | refine Ext.drew ?_ | refine Ext.drewN ?_ _ | refine Ext.setCell ?_ (by first | exact Nat.le_refl _ | (simp; done) | (dsimp only; omega) | (simp only [World.size_alloc, World.size_setCell]; omega)) _ | refine Ext.trans ?_ (by assumption))))).mono ?_
    rw [HOK.out]
    rintro e w1 ⟨rfl, hb1⟩
    go_wp2_with (fail)
    go_ret2
    exact ⟨_, [], rfl, Lists.nil _ _ _, (by repeat (first | exact Ext.refl _ | assumption | refine Ext.alloc ?_ _ | refine Ext.drew ?_ | refine Ext.drewN ?_ _ | refine Ext.setCell ?_ (by first | exact Nat.le_refl _ | (simp; done) | (dsimp only; omega) | (simp only [World.size_alloc, World.size_setCell]; omega)) _ | refine Ext.trans ?_ (by assumption)))⟩
  | true =>
    have HOK := hid hok
    cases hp : inR l 0 168 with
    | false =>
      have HP := hid hp
      have hc : srC z n l = false := by unfold srC; rw [hp, Bool.and_false]
      rw [show srV z n l = [] by unfold srV; rw [hc]; rfl, hc]
      clear hok hc hp
      go_enter Tryd.func18, Tryd.ntmps18
      go_wp2_with (fail)
      refine (shGood_any v n z _ (h.ext (by repeat (first | exact Ext.refl _ | assumption | refine Ext.alloc ?_ _ | refine Ext.drew ?_ | refine Ext.drewN ?_ _ | refine Ext.setCell ?_ (by first | exact Nat.le_refl _ | (simp; done) | (dsimp only; omega) | (simp only [World.size_alloc, World.size_setCell]; omega)) _ | refine Ext.trans ?_ (by assumption))))).mono ?_
      rw [HOK.out]
      rintro e w1 ⟨rfl, hb1⟩
      go_wp2_with (go_at_call 42; refine (l1In_any _ _ _ _).mono ?_; rw [HP.out]; rintro e w' ⟨rfl, rfl⟩)
      go_ret2
      exact ⟨_, [], rfl, Lists.nil _ _ _, (by repeat (first | exact Ext.refl _ | assumption | refine Ext.alloc ?_ _ | refine Ext.drew ?_ | refine Ext.drewN ?_ _ | refine Ext.setCell ?_ (by first | exact Nat.le_refl _ | (simp; done) | (dsimp only; omega) | (simp only [World.size_alloc, World.size_setCell]; omega)) _ | refine Ext.trans ?_ (by assumption)))⟩
    | true =>
      have HP := hid hp
      have hc : srC z n l = true := by unfold srC; rw [hok, hp]; rfl
      have HV := hid (show srV z n l = srZ z n l n by unfold srV; rw [if_pos hc])
      rw [HV.out, hc]
      obtain ⟨i0, hi, hz0, hz1, hz2⟩ := info_parts info_Ints
      have hn60 := okSs_n hok
      have pb := inR_iff.1 hp
      obtain ⟨pb1, pb2⟩ := pb
      clear hok hc hp
      have hh := h
      obtain ⟨hl, hm, hwf, a, c, rfl, hnc, hcm, hcell⟩ := h
      unfold maxLen at hm
      clear hwf
      go_enter Tryd.func18, Tryd.ntmps18
      go_wp2_with (fail)
      refine (shGood_any _ n z _ (hh.ext (by repeat (first | exact Ext.refl _ | assumption | refine Ext.alloc ?_ _ | refine Ext.drew ?_ | refine Ext.drewN ?_ _ | refine Ext.setCell ?_ (by first | exact Nat.le_refl _ | (simp; done) | (dsimp only; omega) | (simp only [World.size_alloc, World.size_setCell]; omega)) _ | refine Ext.trans ?_ (by assumption))))).mono ?_
      rw [HOK.out]
      rintro e w1 ⟨rfl, hb1⟩
      go_wp2_with (go_at_call 42; refine (l1In_any _ _ _ _).mono ?_; rw [HP.out]; rintro e w' ⟨rfl, rfl⟩)
      have hs01 := hb1.size
      go_loopw [6, 21] (fun u i wr => ∃ (k : Nat) (gs : List Nat), k ≤ n ∧ i = .int .i64 (k : Int) ∧ Lists wr w1.heap.size u 2 gs (srZ z n l k) ∧ Ext w1 wr)
        (fun _ i _ => n - (intOf i).toNat)
      case atStart => exact ⟨0, [], Nat.zero_le _, rfl, Lists.nil _ _ _, Ext.refl _⟩
      case round =>
        obtain ⟨k, gs, hk, rfl, hY, hX⟩ := hrel
        by_cases hlt : k < n
        · obtain ⟨b, o, rfl, hb, hc⟩ := hcell.resolve_left (by omega)
          have hXX := hb1.trans hX
          obtain ⟨x0, hx0⟩ : ∃ x, x = z.getD (k * 3) 0 := ⟨_, rfl⟩
          have s0 : wr.cell? ⟨b, o + k * 3, none⟩ = some (.int .i64 x0) := by rw [(Ext.cells hXX).1 _ _ hb, show o + k * 3 = o + (k * 3) by omega, hc _ (by omega), hx0]
          have H0 := hid hx0
          clear hx0
          obtain ⟨x1, hx1⟩ : ∃ x, x = z.getD (k * 3 + 1) 0 := ⟨_, rfl⟩
          have s1 : wr.cell? ⟨b, o + k * 3 + 1, none⟩ = some (.int .i64 x1) := by rw [(Ext.cells hXX).1 _ _ hb, show o + k * 3 + 1 = o + (k * 3 + 1) by omega, hc _ (by omega), hx1]
          have H1 := hid hx1
          clear hx1
          obtain ⟨x2, hx2⟩ : ∃ x, x = z.getD (k * 3 + 2) 0 := ⟨_, rfl⟩
          have s2 : wr.cell? ⟨b, o + k * 3 + 2, none⟩ = some (.int .i64 x2) := by rw [(Ext.cells hXX).1 _ _ hb, show o + k * 3 + 2 = o + (k * 3 + 2) by omega, hc _ (by omega), hx2]
          have H2 := hid hx2
          clear hx2
          have sb := okSs_bd HOK.out k hlt
          have E0 := hid (show shOp z k = x0 from H0.out.symm)
          have E2 := hid (show shTo z k = x2 from H2.out.symm)
          rw [E0.out, E2.out, show shFr z k = x1 from H1.out.symm] at sb
          obtain ⟨sb1, sb2, sb3, sb4, sb5⟩ := sb
          have HC := hid hc
          have hinv := (srZ_inv z n l k (by omega)).1
          have hgl := hY.len
          have hgk : gs.length ≤ 60 := by omega
          clear hc hcell hinv hgl
          obtain ⟨aG, cG, rfl, hnc2, hcm2, hG⟩ := hY.shape
          go_wp2_with (fail)
          have hY2 := hY.alloc (.cells #[.int .i64 x0, .int .i64 x1, .int .i64 x2] 42)
          have p0 : (wr.alloc (.cells #[.int .i64 x0, .int .i64 x1, .int .i64 x2] 42)).cell? ⟨wr.heap.size, 0, none⟩ = some (.int .i64 x0) := by simp [go_sem]
          have p2 : (wr.alloc (.cells #[.int .i64 x0, .int .i64 x1, .int .i64 x2] 42)).cell? ⟨wr.heap.size, 2, none⟩ = some (.int .i64 x2) := by simp [go_sem]
          have hX2 := hX.alloc (.cells #[.int .i64 x0, .int .i64 x1, .int .i64 x2] 42)
          have hgx : wr.heap.size < (wr.alloc (.cells #[.int .i64 x0, .int .i64 x1, .int .i64 x2] 42)).heap.size := by simp
          have HY2 := hid hY2
          clear hY2 hY hG
          obtain ⟨gx, hgx2⟩ : ∃ g, g = wr.heap.size := ⟨_, rfl⟩
          rw [← hgx2] at p0 p2 hgx ⊢
          clear s0 s1 s2 hgx2 hX hXX
          generalize wr.alloc (.cells #[.int .i64 x0, .int .i64 x1, .int .i64 x2] 42) = wx at *
          have hXX2 := hb1.trans hX2
          go_loopw [6, 9] (fun u i wr => ∃ (q : Nat), k + 1 ≤ q ∧ q ≤ n ∧ i = .int .i64 (q : Int) ∧ u = .slice aG gs.length cG ∧ (∀ m, k < m → m < q → shOp z m ≠ x0) ∧ Ext wx wr)
            (fun _ i _ => n - (intOf i).toNat)
          case atStart => exact ⟨k + 1, by omega, by omega, by go_num, rfl, fun m h1 h2 => absurd h1 (by omega), Ext.refl _⟩
          case round =>
            obtain ⟨q, hq1, hq2, rfl, rfl, hall, hY⟩ := hrel
            have HA := hid hall
            clear hall
            by_cases hql : q < n
            · obtain ⟨y0, hy0⟩ : ∃ y, y = shOp z q := ⟨_, rfl⟩
              obtain ⟨y1, hy1⟩ : ∃ y, y = shFr z q := ⟨_, rfl⟩
              have hE2 := hXX2.trans hY
              have c0 : wr.cell? ⟨b, o + q * 3, none⟩ = some (.int .i64 y0) := by rw [(Ext.cells hE2).1 _ _ hb, HC.out _ (by omega), hy0]; rfl
              have c1 : wr.cell? ⟨b, o + q * 3 + 1, none⟩ = some (.int .i64 y1) := by rw [(Ext.cells hE2).1 _ _ hb, show o + q * 3 + 1 = o + (q * 3 + 1) by omega, HC.out _ (by omega), hy1]; rfl
              have n0 : wr.cell? ⟨gx, 0, none⟩ = some (.int .i64 x0) := by rw [(Ext.cells hY).1 _ _ hgx, p0]
              have n2 : wr.cell? ⟨gx, 2, none⟩ = some (.int .i64 x2) := by rw [(Ext.cells hY).1 _ _ hgx, p2]
              have yb := okSs_bd HOK.out q hql
              rw [← hy1, ← hy0] at yb
              obtain ⟨_, _, yb1, _, _⟩ := yb
              have yb2 : y1 ≤ 168 := by omega
              have Y0 := hid hy0
              have Y1 := hid hy1
              have u1 : (0 : Int) ≤ (q : Int) := by omega
              have u2 : (q : Int) < n := by omega
              have u3 : decide (q < n) = true := decide_eq_true hql
              clear hy0 hy1
              by_cases hyx : y0 = x0
              · have t1 : (y0 != x0) = false := by simpa using hyx
                have t2 : (y0 == x0) = true := by simpa using hyx
                have HN := hid (nxt_some (z := z) (n := n) (i := k) (k := q) hql (by omega) (by rw [E0.out, ← Y0.out, hyx]) (fun m h1 h2 => by rw [E0.out]; exact HA.out m h1 h2))
                have hst : srZ z n l (k + 1) = if 0 < y1 - x2 ∧ y1 - x2 < l then srZ z n l k ++ [[(k : Int), (q : Int)]] else srZ z n l k := by
                  rw [srZ, HN.out]
                  simp only
                  rw [← Y1.out, E2.out]
                have HST := hid hst
                have v1 : IntKind.i64.wrap (y1 - x2) = y1 - x2 := IntWalk.i64_in _ (by omega)
                clear hst hyx
                obtain ⟨d, hd⟩ : ∃ d, d = y1 - x2 := ⟨_, rfl⟩
                have HD := hid hd
                have hd1 : -168 ≤ d := by omega
                have hd2 : d ≤ 168 := by omega
                rw [← hd] at v1
                have v2 : IntKind.i64.wrap (y1 - x2) = d := by rw [hd]; exact IntWalk.i64_in _ (by omega)
                clear hd v1
                go_wp2_with (fail)
                go_quiet (fail)
                rename Nat => nq1
                replace c1 : (wr.drewN nq1).cell? ⟨b, o + q * 3 + 1, none⟩ = some (.int .i64 y1) := c1
                replace n2 : (wr.drewN nq1).cell? ⟨gx, 2, none⟩ = some (.int .i64 x2) := n2
                replace hY := hY.drewN nq1
                clear c0 n0 hE2
                generalize wr.drewN nq1 = wp at *
                go_wp2_with (fail)
                go_quiet (fail)
                rename Nat => nq
                obtain ⟨wq, hwq⟩ : ∃ wq, wq = wp.drewN nq := ⟨_, rfl⟩
                have hYq : Ext wx wq := by rw [hwq]; exact hY.drewN nq
                rw [← hwq]
                clear hwq c1 n2 v2
                have HYq := hid (HY2.out.ext hYq)
                have hrow := HYq.out.row
                have hXq := hX2.trans hYq
                have hXqs := hXq.size
                by_cases h1 : 0 < d
                · have h1b : decide (0 < d) = true := decide_eq_true h1
                  by_cases h2 : d < l
                  · have h2b : decide (d < l) = true := decide_eq_true h2
                    go_wp2_with (first | (at_builtin; refine wpList_append_own _ rfl _ _ 26 rfl w1.heap.size 31 i0 _ _ _ Tryd.underlying26 hi hz0 hz1 hz2 rfl (by decide) _ _ _ rfl ((hrow.alloc _).alloc _) _ 1 1 [.slice (some ⟨wq.heap.size, 0, none⟩) 2 2] rfl rfl (cell_new1 _ _ _ _ (by simp)) (fun x hx => by simp at hx; subst hx; rfl) (by unfold maxLen; omega) (by omega) (by simp; omega) ?_; intro v' w3 hr3 hg3 hnil'))
                    go_roundw
                    case rel =>
                      refine ⟨k + 1, gs ++ [wq.heap.size], by omega, by go_num, ?_, ?_⟩
                      · rw [HST.out, ← HD.out, if_pos ⟨h1, h2⟩]
                        refine HYq.out.snoc (Nat.le_refl _) ((by repeat (first | exact Ext.refl _ | assumption | refine Ext.alloc ?_ _ | refine Ext.drew ?_ | refine Ext.drewN ?_ _ | refine Ext.setCell ?_ (by first | exact Nat.le_refl _ | (simp; done) | (dsimp only; omega) | (simp only [World.size_alloc, World.size_setCell]; omega)) _ | refine Ext.trans ?_ (by assumption))) : Ext wq _) ?_ hr3 hg3
                        have hl := World.ownsRow_lit (base := w1.heap.size) (e := 3) (size := 1) wq #[.int .i64 (k : Int), .int .i64 (q : Int)] 2 hXqs (by simp [maxLen]) rfl
                        exact hl.alloc _
                      · exact ext_append ((hXq.alloc _).alloc _) ((hrow.alloc _).alloc _) (Nat.le_refl _) hg3
                    case measure => simp [intOf]; omega
                  · have h2b : decide (d < l) = false := decide_eq_false h2
                    go_wp2_with (fail)
                    go_roundw
                    case rel => exact ⟨k + 1, gs, by omega, by go_num, by rw [HST.out, ← HD.out, if_neg (fun hh => h2 hh.2)]; exact HYq.out, hXq⟩
                    case measure => simp [intOf]; omega
                · have h1b : decide (0 < d) = false := decide_eq_false h1
                  go_wp2_with (fail)
                  go_roundw
                  case rel => exact ⟨k + 1, gs, by omega, by go_num, by rw [HST.out, ← HD.out, if_neg (fun hh => h1 hh.1)]; exact HYq.out, hXq⟩
                  case measure => simp [intOf]; omega
              · have t1 : (y0 != x0) = true := by simpa using hyx
                have t2 : (y0 == x0) = false := by simpa using hyx
                have HYX := hid hyx
                clear hyx c1 n2
                go_wp2_with (fail)
                go_quiet (fail)
                go_wp2_with (fail)
                go_roundw
                case rel =>
                  refine ⟨q + 1, by omega, by omega, by go_num, rfl, fun m h1 h2 => ?_, hY.drewN _⟩
                  by_cases e : m = q
                  · subst e
                    rw [← Y0.out]
                    exact HYX.out
                  · exact HA.out m h1 (by omega)
                case measure => simp [intOf]; omega
            · obtain rfl : q = n := by omega
              have HN := hid (nxt_none (z := z) (n := q) (i := k) (fun m h1 h2 => by rw [E0.out]; exact HA.out m h1 h2))
              have HST := hid (show srZ z q l (k + 1) = srZ z q l k by rw [srZ, HN.out])
              have u3 : decide (q < q) = false := by simp
              go_wp2_with (fail)
              go_roundw
              case rel => exact ⟨k + 1, gs, by omega, by go_num, by rw [HST.out]; exact HY2.out.ext hY, hX2.trans hY⟩
              case measure => simp [intOf]; omega
        · obtain rfl : k = n := by omega
          have HY := hid hY
          clear hcell hY
          go_wp2_with (fail)
          go_ret2
          exact ⟨_, gs, rfl, HY.out.mono hs01, hb1.trans hX⟩

set_option maxRecDepth 100000 in
set_option maxHeartbeats 4000000 in
theorem iShortRests_any (v : Value) (n : Nat) (z : List Int) (l : Int) (w : World) (h : IntRow .i64 3 w v n z) :
    Calls Tryd.prog 17 #[v, .int .i64 l] w fun e w' => ∃ v' gs, e = .returned (.tuple #[v', .bool (srC z n l)]) ∧ Lists w' w.heap.size v' 2 gs (srV z n l) ∧ Ext w w' := by
  cases hok : okSs z n with
  | false =>
    have HOK := hid hok
    have hc : srC z n l = false := by unfold srC; rw [hok]; rfl
    rw [show srV z n l = [] by unfold srV; rw [hc]; rfl, hc]
    clear hok hc
    go_enter Tryd.func17, Tryd.ntmps17
    go_wp2_with (fail)
    refine (iAreShifts_any v n z _ (h.ext (by repeat (first | exact Ext.refl _ | assumption | refine Ext.alloc ?_ _ | refine Ext.drew ?_ | refine Ext.drewN ?_ _ | refine Ext.setCell ?_ (by first | exact Nat.le_refl _ | (simp; done) | (dsimp only; omega) | (simp only [World.size_alloc, World.size_setCell]; omega)) _ | refine Ext.trans ?_ (by assumption))))).mono ?_
    rw [HOK.out]
    rintro e w1 ⟨rfl, hb1⟩
    go_wp2_with (fail)
    go_ret2
    exact ⟨_, [], rfl, Lists.nil _ _ _, (by repeat (first | exact Ext.refl _ | assumption | refine Ext.alloc ?_ _ | refine Ext.drew ?_ | refine Ext.drewN ?_ _ | refine Ext.setCell ?_ (by first | exact Nat.le_refl _ | (simp; done) | (dsimp only; omega) | (simp only [World.size_alloc, World.size_setCell]; omega)) _ | refine Ext.trans ?_ (by assumption)))⟩
  | true =>
    have HOK := hid hok
    cases hp : inR l 0 168 with
    | false =>
      have HP := hid hp
      have hc : srC z n l = false := by unfold srC; rw [hp, Bool.and_false]
      rw [show srV z n l = [] by unfold srV; rw [hc]; rfl, hc]
      clear hok hc hp
      go_enter Tryd.func17, Tryd.ntmps17
      go_wp2_with (fail)
      refine (iAreShifts_any v n z _ (h.ext (by repeat (first | exact Ext.refl _ | assumption | refine Ext.alloc ?_ _ | refine Ext.drew ?_ | refine Ext.drewN ?_ _ | refine Ext.setCell ?_ (by first | exact Nat.le_refl _ | (simp; done) | (dsimp only; omega) | (simp only [World.size_alloc, World.size_setCell]; omega)) _ | refine Ext.trans ?_ (by assumption))))).mono ?_
      rw [HOK.out]
      rintro e w1 ⟨rfl, hb1⟩
      go_wp2_with (go_at_call 39; refine (within_any _ _ _ _).mono ?_; rw [HP.out]; rintro e w' ⟨rfl, rfl⟩)
      go_ret2
      exact ⟨_, [], rfl, Lists.nil _ _ _, (by repeat (first | exact Ext.refl _ | assumption | refine Ext.alloc ?_ _ | refine Ext.drew ?_ | refine Ext.drewN ?_ _ | refine Ext.setCell ?_ (by first | exact Nat.le_refl _ | (simp; done) | (dsimp only; omega) | (simp only [World.size_alloc, World.size_setCell]; omega)) _ | refine Ext.trans ?_ (by assumption)))⟩
    | true =>
      have HP := hid hp
      have hc : srC z n l = true := by unfold srC; rw [hok, hp]; rfl
      have HV := hid (show srV z n l = srZ z n l n by unfold srV; rw [if_pos hc])
      rw [HV.out, hc]
      obtain ⟨i0, hi, hz0, hz1, hz2⟩ := info_parts info_Ints
      have hn60 := okSs_n hok
      have pb := inR_iff.1 hp
      obtain ⟨pb1, pb2⟩ := pb
      clear hok hc hp
      have hh := h
      obtain ⟨hl, hm, hwf, a, c, rfl, hnc, hcm, hcell⟩ := h
      unfold maxLen at hm
      clear hwf
      go_enter Tryd.func17, Tryd.ntmps17
      go_wp2_with (fail)
      refine (iAreShifts_any _ n z _ (hh.ext (by repeat (first | exact Ext.refl _ | assumption | refine Ext.alloc ?_ _ | refine Ext.drew ?_ | refine Ext.drewN ?_ _ | refine Ext.setCell ?_ (by first | exact Nat.le_refl _ | (simp; done) | (dsimp only; omega) | (simp only [World.size_alloc, World.size_setCell]; omega)) _ | refine Ext.trans ?_ (by assumption))))).mono ?_
      rw [HOK.out]
      rintro e w1 ⟨rfl, hb1⟩
      go_wp2_with (go_at_call 39; refine (within_any _ _ _ _).mono ?_; rw [HP.out]; rintro e w' ⟨rfl, rfl⟩)
      have hs01 := hb1.size
      go_loopw [6, 21] (fun u i wr => ∃ (k : Nat) (gs : List Nat), k ≤ n ∧ i = .int .i64 (k : Int) ∧ Lists wr w1.heap.size u 2 gs (srZ z n l k) ∧ Ext w1 wr)
        (fun _ i _ => n - (intOf i).toNat)
      case atStart => exact ⟨0, [], Nat.zero_le _, rfl, Lists.nil _ _ _, Ext.refl _⟩
      case round =>
        obtain ⟨k, gs, hk, rfl, hY, hX⟩ := hrel
        by_cases hlt : k < n
        · obtain ⟨b, o, rfl, hb, hc⟩ := hcell.resolve_left (by omega)
          have hXX := hb1.trans hX
          obtain ⟨x0, hx0⟩ : ∃ x, x = z.getD (k * 3) 0 := ⟨_, rfl⟩
          have s0 : wr.cell? ⟨b, o + k * 3, none⟩ = some (.int .i64 x0) := by rw [(Ext.cells hXX).1 _ _ hb, show o + k * 3 = o + (k * 3) by omega, hc _ (by omega), hx0]
          have H0 := hid hx0
          clear hx0
          obtain ⟨x1, hx1⟩ : ∃ x, x = z.getD (k * 3 + 1) 0 := ⟨_, rfl⟩
          have s1 : wr.cell? ⟨b, o + k * 3 + 1, none⟩ = some (.int .i64 x1) := by rw [(Ext.cells hXX).1 _ _ hb, show o + k * 3 + 1 = o + (k * 3 + 1) by omega, hc _ (by omega), hx1]
          have H1 := hid hx1
          clear hx1
          obtain ⟨x2, hx2⟩ : ∃ x, x = z.getD (k * 3 + 2) 0 := ⟨_, rfl⟩
          have s2 : wr.cell? ⟨b, o + k * 3 + 2, none⟩ = some (.int .i64 x2) := by rw [(Ext.cells hXX).1 _ _ hb, show o + k * 3 + 2 = o + (k * 3 + 2) by omega, hc _ (by omega), hx2]
          have H2 := hid hx2
          clear hx2
          have sb := okSs_bd HOK.out k hlt
          have E0 := hid (show shOp z k = x0 from H0.out.symm)
          have E2 := hid (show shTo z k = x2 from H2.out.symm)
          rw [E0.out, E2.out, show shFr z k = x1 from H1.out.symm] at sb
          obtain ⟨sb1, sb2, sb3, sb4, sb5⟩ := sb
          have HC := hid hc
          have hinv := (srZ_inv z n l k (by omega)).1
          have hgl := hY.len
          have hgk : gs.length ≤ 60 := by omega
          clear hc hcell hinv hgl
          obtain ⟨aG, cG, rfl, hnc2, hcm2, hG⟩ := hY.shape
          go_wp2_with (fail)
          have hY2 := hY.alloc (.cells #[.int .i64 x0, .int .i64 x1, .int .i64 x2] 42)
          have p0 : (wr.alloc (.cells #[.int .i64 x0, .int .i64 x1, .int .i64 x2] 42)).cell? ⟨wr.heap.size, 0, none⟩ = some (.int .i64 x0) := by simp [go_sem]
          have p2 : (wr.alloc (.cells #[.int .i64 x0, .int .i64 x1, .int .i64 x2] 42)).cell? ⟨wr.heap.size, 2, none⟩ = some (.int .i64 x2) := by simp [go_sem]
          have hX2 := hX.alloc (.cells #[.int .i64 x0, .int .i64 x1, .int .i64 x2] 42)
          have hgx : wr.heap.size < (wr.alloc (.cells #[.int .i64 x0, .int .i64 x1, .int .i64 x2] 42)).heap.size := by simp
          have HY2 := hid hY2
          clear hY2 hY hG
          obtain ⟨gx, hgx2⟩ : ∃ g, g = wr.heap.size := ⟨_, rfl⟩
          rw [← hgx2] at p0 p2 hgx ⊢
          clear s0 s1 s2 hgx2 hX hXX
          generalize wr.alloc (.cells #[.int .i64 x0, .int .i64 x1, .int .i64 x2] 42) = wx at *
          have hXX2 := hb1.trans hX2
          go_loopw [6, 9] (fun u i wr => ∃ (q : Nat), k + 1 ≤ q ∧ q ≤ n ∧ i = .int .i64 (q : Int) ∧ u = .slice aG gs.length cG ∧ (∀ m, k < m → m < q → shOp z m ≠ x0) ∧ Ext wx wr)
            (fun _ i _ => n - (intOf i).toNat)
          case atStart => exact ⟨k + 1, by omega, by omega, by go_num, rfl, fun m h1 h2 => absurd h1 (by omega), Ext.refl _⟩
          case round =>
            obtain ⟨q, hq1, hq2, rfl, rfl, hall, hY⟩ := hrel
            have HA := hid hall
            clear hall
            by_cases hql : q < n
            · obtain ⟨y0, hy0⟩ : ∃ y, y = shOp z q := ⟨_, rfl⟩
              obtain ⟨y1, hy1⟩ : ∃ y, y = shFr z q := ⟨_, rfl⟩
              have hE2 := hXX2.trans hY
              have c0 : wr.cell? ⟨b, o + q * 3, none⟩ = some (.int .i64 y0) := by rw [(Ext.cells hE2).1 _ _ hb, HC.out _ (by omega), hy0]; rfl
              have c1 : wr.cell? ⟨b, o + q * 3 + 1, none⟩ = some (.int .i64 y1) := by rw [(Ext.cells hE2).1 _ _ hb, show o + q * 3 + 1 = o + (q * 3 + 1) by omega, HC.out _ (by omega), hy1]; rfl
              have n0 : wr.cell? ⟨gx, 0, none⟩ = some (.int .i64 x0) := by rw [(Ext.cells hY).1 _ _ hgx, p0]
              have n2 : wr.cell? ⟨gx, 2, none⟩ = some (.int .i64 x2) := by rw [(Ext.cells hY).1 _ _ hgx, p2]
              have yb := okSs_bd HOK.out q hql
              rw [← hy1, ← hy0] at yb
              obtain ⟨_, _, yb1, _, _⟩ := yb
              have yb2 : y1 ≤ 168 := by omega
              have Y0 := hid hy0
              have Y1 := hid hy1
              have u1 : (0 : Int) ≤ (q : Int) := by omega
              have u2 : (q : Int) < n := by omega
              have u3 : decide (q < n) = true := decide_eq_true hql
              clear hy0 hy1
              by_cases hyx : y0 = x0
              · have t1 : (y0 != x0) = false := by simpa using hyx
                have t2 : (y0 == x0) = true := by simpa using hyx
                have HN := hid (nxt_some (z := z) (n := n) (i := k) (k := q) hql (by omega) (by rw [E0.out, ← Y0.out, hyx]) (fun m h1 h2 => by rw [E0.out]; exact HA.out m h1 h2))
                have hst : srZ z n l (k + 1) = if 0 < y1 - x2 ∧ y1 - x2 < l then srZ z n l k ++ [[(k : Int), (q : Int)]] else srZ z n l k := by
                  rw [srZ, HN.out]
                  simp only
                  rw [← Y1.out, E2.out]
                have HST := hid hst
                have v1 : IntKind.i64.wrap (y1 - x2) = y1 - x2 := IntWalk.i64_in _ (by omega)
                clear hst hyx
                obtain ⟨d, hd⟩ : ∃ d, d = y1 - x2 := ⟨_, rfl⟩
                have HD := hid hd
                have hd1 : -168 ≤ d := by omega
                have hd2 : d ≤ 168 := by omega
                rw [← hd] at v1
                have v2 : IntKind.i64.wrap (y1 - x2) = d := by rw [hd]; exact IntWalk.i64_in _ (by omega)
                clear hd v1
                go_wp2_with (fail)
                go_quiet (fail)
                rename Nat => nq1
                replace c1 : (wr.drewN nq1).cell? ⟨b, o + q * 3 + 1, none⟩ = some (.int .i64 y1) := c1
                replace n2 : (wr.drewN nq1).cell? ⟨gx, 2, none⟩ = some (.int .i64 x2) := n2
                replace hY := hY.drewN nq1
                clear c0 n0 hE2
                generalize wr.drewN nq1 = wp at *
                go_wp2_with (fail)
                go_quiet (fail)
                rename Nat => nq
                obtain ⟨wq, hwq⟩ : ∃ wq, wq = wp.drewN nq := ⟨_, rfl⟩
                have hYq : Ext wx wq := by rw [hwq]; exact hY.drewN nq
                rw [← hwq]
                clear hwq c1 n2 v2
                have HYq := hid (HY2.out.ext hYq)
                have hrow := HYq.out.row
                have hXq := hX2.trans hYq
                have hXqs := hXq.size
                by_cases h1 : 0 < d
                · have h1b : decide (0 < d) = true := decide_eq_true h1
                  by_cases h2 : d < l
                  · have h2b : decide (d < l) = true := decide_eq_true h2
                    go_wp2_with (first | (at_builtin; refine wpList_append_own _ rfl _ _ 26 rfl w1.heap.size 31 i0 _ _ _ Tryd.underlying26 hi hz0 hz1 hz2 rfl (by decide) _ _ _ rfl ((hrow.alloc _).alloc _) _ 1 1 [.slice (some ⟨wq.heap.size, 0, none⟩) 2 2] rfl rfl (cell_new1 _ _ _ _ (by simp)) (fun x hx => by simp at hx; subst hx; rfl) (by unfold maxLen; omega) (by omega) (by simp; omega) ?_; intro v' w3 hr3 hg3 hnil'))
                    go_roundw
                    case rel =>
                      refine ⟨k + 1, gs ++ [wq.heap.size], by omega, by go_num, ?_, ?_⟩
                      · rw [HST.out, ← HD.out, if_pos ⟨h1, h2⟩]
                        refine HYq.out.snoc (Nat.le_refl _) ((by repeat (first | exact Ext.refl _ | assumption | refine Ext.alloc ?_ _ | refine Ext.drew ?_ | refine Ext.drewN ?_ _ | refine Ext.setCell ?_ (by first | exact Nat.le_refl _ | (simp; done) | (dsimp only; omega) | (simp only [World.size_alloc, World.size_setCell]; omega)) _ | refine Ext.trans ?_ (by assumption))) : Ext wq _) ?_ hr3 hg3
                        have hl := World.ownsRow_lit (base := w1.heap.size) (e := 3) (size := 1) wq #[.int .i64 (k : Int), .int .i64 (q : Int)] 2 hXqs (by simp [maxLen]) rfl
                        exact hl.alloc _
                      · exact ext_append ((hXq.alloc _).alloc _) ((hrow.alloc _).alloc _) (Nat.le_refl _) hg3
                    case measure => simp [intOf]; omega
                  · have h2b : decide (d < l) = false := decide_eq_false h2
                    go_wp2_with (fail)
                    go_roundw
                    case rel => exact ⟨k + 1, gs, by omega, by go_num, by rw [HST.out, ← HD.out, if_neg (fun hh => h2 hh.2)]; exact HYq.out, hXq⟩
                    case measure => simp [intOf]; omega
                · have h1b : decide (0 < d) = false := decide_eq_false h1
                  go_wp2_with (fail)
                  go_roundw
                  case rel => exact ⟨k + 1, gs, by omega, by go_num, by rw [HST.out, ← HD.out, if_neg (fun hh => h1 hh.1)]; exact HYq.out, hXq⟩
                  case measure => simp [intOf]; omega
              · have t1 : (y0 != x0) = true := by simpa using hyx
                have t2 : (y0 == x0) = false := by simpa using hyx
                have HYX := hid hyx
                clear hyx c1 n2
                go_wp2_with (fail)
                go_quiet (fail)
                go_wp2_with (fail)
                go_roundw
                case rel =>
                  refine ⟨q + 1, by omega, by omega, by go_num, rfl, fun m h1 h2 => ?_, hY.drewN _⟩
                  by_cases e : m = q
                  · subst e
                    rw [← Y0.out]
                    exact HYX.out
                  · exact HA.out m h1 (by omega)
                case measure => simp [intOf]; omega
            · obtain rfl : q = n := by omega
              have HN := hid (nxt_none (z := z) (n := q) (i := k) (fun m h1 h2 => by rw [E0.out]; exact HA.out m h1 h2))
              have HST := hid (show srZ z q l (k + 1) = srZ z q l k by rw [srZ, HN.out])
              have u3 : decide (q < q) = false := by simp
              go_wp2_with (fail)
              go_roundw
              case rel => exact ⟨k + 1, gs, by omega, by go_num, by rw [HST.out]; exact HY2.out.ext hY, hX2.trans hY⟩
              case measure => simp [intOf]; omega
        · obtain rfl : k = n := by omega
          have HY := hid hY
          clear hcell hY
          go_wp2_with (fail)
          go_ret2
          exact ⟨_, gs, rfl, HY.out.mono hs01, hb1.trans hX⟩

end Go.Proofs.YtedkffdkhnfoiaaDoor
