/- The clock chapter: lists of bounds, of the program and of the reference: what each function returns. No condition. -/
import Derived.Test.YtiemkobgpaekoaaClkC
import Derived.Test.YtiemkobgpaekoaaConvBound
namespace Go.Proofs.Ytiemkobgpaekoaa
open Go.RowKit
set_option linter.unusedSimpArgs false
set_option linter.unusedVariables false

/-- all of the first n bounds are bounds -/
def okBs (z : List Int) (n : Nat) : Bool := (List.range n).all fun k => bnd (z.getD (k * 2) 0) (z.getD (k * 2 + 1) 0)
theorem okBs_t {z : List Int} {n : Nat} (h : ∀ j, j < n → bnd (z.getD (j * 2) 0) (z.getD (j * 2 + 1) 0) = true) : okBs z n = true := by
  unfold okBs
  rw [List.all_eq_true]
  exact fun j hj => h j (by simpa using hj)
theorem okBs_f {z : List Int} {n k : Nat} (hk : k < n) (h : bnd (z.getD (k * 2) 0) (z.getD (k * 2 + 1) 0) = false) : okBs z n = false := by
  rw [← Bool.not_eq_true]
  unfold okBs
  rw [List.all_eq_true]
  intro hc
  have := hc k (by simpa using hk)
  rw [h] at this
  simp at this
theorem okBs_get {z : List Int} {n : Nat} (h : okBs z n = true) (j : Nat) (hj : j < n) : bnd (z.getD (j * 2) 0) (z.getD (j * 2 + 1) 0) = true := by
  unfold okBs at h
  exact List.all_eq_true.1 h j (by simpa using hj)


set_option maxHeartbeats 800000 in
theorem clList_any (v : Value) (n : Nat) (z : List Int) (w : World) (h : IntRow .i64 2 w v n z) :
    Calls Try.prog 61 #[v] w fun e w' => e = .returned (.bool (okBs z n && inR n 1 20)) ∧ Ext w w' := by
  obtain ⟨hl, hm, hwf, a, c, rfl, hnc, hcm, hcell⟩ := h
  unfold maxLen at hm
  clear hwf
  go_enter Try.func61, Try.ntmps61
  go_wp2_with (fail)
  go_loopw [7] (fun i wr => ∃ (k : Nat), k ≤ n ∧ i = .int .i64 (k : Int) ∧ (∀ j, j < k → bnd (z.getD (j * 2) 0) (z.getD (j * 2 + 1) 0) = true) ∧ Ext w wr)
    (fun i _ => n - (intOf i).toNat)
  case atStart => exact ⟨0, Nat.zero_le _, rfl, fun j hj => absurd hj (by omega), Ext.refl _⟩
  case round =>
    obtain ⟨k, hk, rfl, hall, hE⟩ := hrel
    have HA := hid hall
    clear hall
    by_cases hlt : k < n
    · have hne : ¬ n = 0 := by omega
      obtain ⟨b, o, rfl, hb, hc⟩ := hcell.resolve_left hne
      obtain ⟨x0, hx0⟩ : ∃ x, x = z.getD (k * 2) 0 := ⟨_, rfl⟩
      have s0 : wr.cell? ⟨b, o + k * 2, none⟩ = some (.int .i64 x0) := by rw [(Ext.cells hE).1 _ _ hb, show o + k * 2 = o + (k * 2) by omega, hc _ (by omega), hx0]
      have H0 := hid hx0
      clear hx0
      obtain ⟨x1, hx1⟩ : ∃ x, x = z.getD (k * 2 + 1) 0 := ⟨_, rfl⟩
      have s1 : wr.cell? ⟨b, o + k * 2 + 1, none⟩ = some (.int .i64 x1) := by rw [(Ext.cells hE).1 _ _ hb, show o + k * 2 + 1 = o + (k * 2 + 1) by omega, hc _ (by omega), hx1]
      have H1 := hid hx1
      clear hx1
      clear hc hcell
      by_cases hbn : bnd x0 x1 = true
      · go_wp2_with (fail)
        refine (clBound_any _ _ _).mono ?_
        rintro e w2 ⟨rfl, hb2⟩
        go_wp2_with (fail)
        go_roundw
        case rel =>
          refine ⟨k + 1, by omega, by go_num, fun j hj => ?_, (by repeat (first | exact Ext.refl _ | assumption | refine Ext.alloc ?_ _ | refine Ext.drew ?_ | refine Ext.drewN ?_ _ | refine Ext.setCell ?_ (by first | exact Nat.le_refl _ | (simp; done) | (dsimp only; omega) | (simp only [World.size_alloc, World.size_setCell]; omega)) _ | refine Ext.trans ?_ (by assumption)))⟩
          by_cases e : j = k
          · subst e
            rw [← H0.out, ← H1.out]
            exact hbn
          · exact HA.out j (by omega)
        case measure => simp [intOf]; omega
      · have hbn : bnd x0 x1 = false := by simpa using hbn
        go_wp2_with (fail)
        refine (clBound_any _ _ _).mono ?_
        rintro e w2 ⟨rfl, hb2⟩
        go_wp2_with (fail)
        go_ret
        exact ⟨ret_bool (by rw [and_f (okBs_f hlt (by rw [← H0.out, ← H1.out]; exact hbn))]), (by repeat (first | exact Ext.refl _ | assumption | refine Ext.alloc ?_ _ | refine Ext.drew ?_ | refine Ext.drewN ?_ _ | refine Ext.setCell ?_ (by first | exact Nat.le_refl _ | (simp; done) | (dsimp only; omega) | (simp only [World.size_alloc, World.size_setCell]; omega)) _ | refine Ext.trans ?_ (by assumption)))⟩
    · obtain rfl : k = n := by omega
      clear hcell
      go_wp2_with (fail)
      refine (l1In_any _ _ _ _).mono ?_
      rintro e w2 ⟨rfl, rfl⟩
      go_wp2_with (fail)
      go_ret
      exact ⟨ret_bool (by rw [and_t (okBs_t HA.out)]), (by repeat (first | exact Ext.refl _ | assumption | refine Ext.alloc ?_ _ | refine Ext.drew ?_ | refine Ext.drewN ?_ _ | refine Ext.setCell ?_ (by first | exact Nat.le_refl _ | (simp; done) | (dsimp only; omega) | (simp only [World.size_alloc, World.size_setCell]; omega)) _ | refine Ext.trans ?_ (by assumption)))⟩


set_option maxHeartbeats 800000 in
theorem areBounds_any (v : Value) (n : Nat) (z : List Int) (w : World) (h : IntRow .i64 2 w v n z) :
    Calls Try.prog 62 #[v] w fun e w' => e = .returned (.bool (okBs z n && inR n 1 20)) ∧ Ext w w' := by
  obtain ⟨hl, hm, hwf, a, c, rfl, hnc, hcm, hcell⟩ := h
  unfold maxLen at hm
  clear hwf
  go_enter Try.func62, Try.ntmps62
  go_wp2_with (fail)
  go_loopw [7] (fun i wr => ∃ (k : Nat), k ≤ n ∧ i = .int .i64 (k : Int) ∧ (∀ j, j < k → bnd (z.getD (j * 2) 0) (z.getD (j * 2 + 1) 0) = true) ∧ Ext w wr)
    (fun i _ => n - (intOf i).toNat)
  case atStart => exact ⟨0, Nat.zero_le _, rfl, fun j hj => absurd hj (by omega), Ext.refl _⟩
  case round =>
    obtain ⟨k, hk, rfl, hall, hE⟩ := hrel
    have HA := hid hall
    clear hall
    by_cases hlt : k < n
    · have hne : ¬ n = 0 := by omega
      obtain ⟨b, o, rfl, hb, hc⟩ := hcell.resolve_left hne
      obtain ⟨x0, hx0⟩ : ∃ x, x = z.getD (k * 2) 0 := ⟨_, rfl⟩
      have s0 : wr.cell? ⟨b, o + k * 2, none⟩ = some (.int .i64 x0) := by rw [(Ext.cells hE).1 _ _ hb, show o + k * 2 = o + (k * 2) by omega, hc _ (by omega), hx0]
      have H0 := hid hx0
      clear hx0
      obtain ⟨x1, hx1⟩ : ∃ x, x = z.getD (k * 2 + 1) 0 := ⟨_, rfl⟩
      have s1 : wr.cell? ⟨b, o + k * 2 + 1, none⟩ = some (.int .i64 x1) := by rw [(Ext.cells hE).1 _ _ hb, show o + k * 2 + 1 = o + (k * 2 + 1) by omega, hc _ (by omega), hx1]
      have H1 := hid hx1
      clear hx1
      clear hc hcell
      by_cases hbn : bnd x0 x1 = true
      · go_wp2_with (fail)
        refine (iIsBound_any _ _ _).mono ?_
        rintro e w2 ⟨rfl, hb2⟩
        go_wp2_with (fail)
        go_roundw
        case rel =>
          refine ⟨k + 1, by omega, by go_num, fun j hj => ?_, (by repeat (first | exact Ext.refl _ | assumption | refine Ext.alloc ?_ _ | refine Ext.drew ?_ | refine Ext.drewN ?_ _ | refine Ext.setCell ?_ (by first | exact Nat.le_refl _ | (simp; done) | (dsimp only; omega) | (simp only [World.size_alloc, World.size_setCell]; omega)) _ | refine Ext.trans ?_ (by assumption)))⟩
          by_cases e : j = k
          · subst e
            rw [← H0.out, ← H1.out]
            exact hbn
          · exact HA.out j (by omega)
        case measure => simp [intOf]; omega
      · have hbn : bnd x0 x1 = false := by simpa using hbn
        go_wp2_with (fail)
        refine (iIsBound_any _ _ _).mono ?_
        rintro e w2 ⟨rfl, hb2⟩
        go_wp2_with (fail)
        go_ret
        exact ⟨ret_bool (by rw [and_f (okBs_f hlt (by rw [← H0.out, ← H1.out]; exact hbn))]), (by repeat (first | exact Ext.refl _ | assumption | refine Ext.alloc ?_ _ | refine Ext.drew ?_ | refine Ext.drewN ?_ _ | refine Ext.setCell ?_ (by first | exact Nat.le_refl _ | (simp; done) | (dsimp only; omega) | (simp only [World.size_alloc, World.size_setCell]; omega)) _ | refine Ext.trans ?_ (by assumption)))⟩
    · obtain rfl : k = n := by omega
      clear hcell
      go_wp2_with (fail)
      refine (within_any _ _ _ _).mono ?_
      rintro e w2 ⟨rfl, rfl⟩
      go_wp2_with (fail)
      go_ret
      exact ⟨ret_bool (by rw [and_t (okBs_t HA.out)]), (by repeat (first | exact Ext.refl _ | assumption | refine Ext.alloc ?_ _ | refine Ext.drew ?_ | refine Ext.drewN ?_ _ | refine Ext.setCell ?_ (by first | exact Nat.le_refl _ | (simp; done) | (dsimp only; omega) | (simp only [World.size_alloc, World.size_setCell]; omega)) _ | refine Ext.trans ?_ (by assumption)))⟩


/-- the sum of the first k of g's values -/
def sumF (g : Nat → Int) : Nat → Int
  | 0 => 0
  | k + 1 => sumF g k + g k
theorem sumF_bd {g : Nat → Int} {m : Int} {n : Nat} (hm : 0 ≤ m) (h : ∀ j, j < n → -m ≤ g j ∧ g j ≤ m) : ∀ k, k ≤ n → -(m * k) ≤ sumF g k ∧ sumF g k ≤ m * k
  | 0, _ => by simp [sumF]
  | k + 1, hk => by
    have h1 := sumF_bd hm h k (by omega)
    have h2 := h k (by omega)
    have e : m * ((k + 1 : Nat) : Int) = m * k + m := by rw [Int.natCast_add, Int.mul_add]; simp
    rw [sumF, e]
    omega
def loAt (z : List Int) (j : Nat) : Int := z.getD (j * 2) 0
def hiAt (z : List Int) (j : Nat) : Int := z.getD (j * 2 + 1) 0
theorem okBs_bd {z : List Int} {n : Nat} (h : okBs z n = true) (j : Nat) (hj : j < n) : -100000 ≤ loAt z j ∧ loAt z j ≤ hiAt z j ∧ hiAt z j ≤ 100000 := bnd_iff.1 (okBs_get h j hj)
/-- what every list of bounds that is one gives -/
def chainLo (z : List Int) (n : Nat) : Int := sumF (loAt z) n
def chainHi (z : List Int) (n : Nat) : Int := sumF (hiAt z) n

set_option maxHeartbeats 800000 in
theorem iChain_main (v : Value) (n : Nat) (z : List Int) (w : World) (h : IntRow .i64 2 w v n z) (h1 : okBs z n = true) (h2 : inR n 1 20 = true) :
    Calls Try.prog 39 #[v] w fun e w' => e = .returned (.tuple #[.agg #[.int .i64 (okV (bnd (chainLo z n) (chainHi z n)) (chainLo z n)), .int .i64 (okV (bnd (chainLo z n) (chainHi z n)) (chainHi z n))], .bool (bnd (chainLo z n) (chainHi z n))]) ∧ Ext w w' := by
  obtain ⟨g1, g2⟩ := inR_iff.1 h2
  have hh := h
  obtain ⟨hl, hm, hwf, a, c, rfl, hnc, hcm, hcell⟩ := h
  obtain ⟨b, o, rfl, hb, hc⟩ := hcell.resolve_left (by omega)
  clear hcell hm hcm hwf
  have HB := hid (okBs_bd h1)
  have H12 := hid (And.intro h1 h2)
  clear h1 h2
  go_enter Try.func39, Try.ntmps39
  go_wp2_with (fail)
  have hrow := hh.ext ((Ext.refl w).alloc (.cells #[.int .i64 0, .int .i64 0] 25))
  refine (areBounds_any _ _ _ _ hrow).mono ?_
  rw [H12.out.1, H12.out.2]
  clear hrow hh
  rintro e w1 ⟨rfl, hb1⟩
  have hz1 := Ext.size hb1
  simp only [World.size_alloc] at hz1
  go_wp2_with (fail)
  go_loopw [13] (fun i wr => ∃ (k : Nat), k ≤ n ∧ i = .int .i64 (k : Int) ∧ wr.cell? ⟨w1.heap.size, 0, none⟩ = some (.int .i64 (sumF (loAt z) k)) ∧ wr.cell? ⟨w1.heap.size, 1, none⟩ = some (.int .i64 (sumF (hiAt z) k)) ∧
      wr.frozen? ⟨w1.heap.size, 0, none⟩ = false ∧ wr.frozen? ⟨w1.heap.size, 1, none⟩ = false ∧ w1.heap.size < wr.heap.size ∧ Ext (w.alloc (.cells #[.int .i64 0, .int .i64 0] 25)) wr)
    (fun i _ => n - (intOf i).toNat)
  case atStart => exact ⟨0, Nat.zero_le _, rfl, by simp [go_sem, sumF], by simp [go_sem, sumF], by simp [go_sem], by simp [go_sem], by simp, (by repeat (first | exact Ext.refl _ | assumption | refine Ext.alloc ?_ _ | refine Ext.drew ?_ | refine Ext.drewN ?_ _ | refine Ext.setCell ?_ (by first | exact Nat.le_refl _ | (simp; done) | (dsimp only; omega) | (simp only [World.size_alloc, World.size_setCell]; omega)) _ | refine Ext.trans ?_ (by assumption)))⟩
  case round =>
    obtain ⟨k, hk, rfl, t0, t1, f0, f1, hsz, hE0⟩ := hrel
    have hE : Ext w wr := ((Ext.refl w).alloc _).trans hE0
    by_cases hlt : k < n
    · have b0 := sumF_bd (g := loAt z) (m := 100000) (n := n) (by omega) (fun j hj => by have := HB.out j hj; omega) k (by omega)
      have b1 := sumF_bd (g := hiAt z) (m := 100000) (n := n) (by omega) (fun j hj => by have := HB.out j hj; omega) k (by omega)
      have b2 := HB.out k hlt
      obtain ⟨x0, hx0⟩ : ∃ x, x = z.getD (k * 2) 0 := ⟨_, rfl⟩
      have s0 : wr.cell? ⟨b, o + k * 2, none⟩ = some (.int .i64 x0) := by rw [(Ext.cells hE).1 _ _ hb, show o + k * 2 = o + (k * 2) by omega, hc _ (by omega), hx0]
      have H0 := hid hx0
      clear hx0
      obtain ⟨x1, hx1⟩ : ∃ x, x = z.getD (k * 2 + 1) 0 := ⟨_, rfl⟩
      have s1 : wr.cell? ⟨b, o + k * 2 + 1, none⟩ = some (.int .i64 x1) := by rw [(Ext.cells hE).1 _ _ hb, show o + k * 2 + 1 = o + (k * 2 + 1) by omega, hc _ (by omega), hx1]
      have H1 := hid hx1
      clear hx1
      have e0 : loAt z k = x0 := H0.out.symm
      have e1 : hiAt z k = x1 := H1.out.symm
      rw [e0, e1] at b2
      have E0 := hid e0
      have E1 := hid e1
      obtain ⟨b01, b02⟩ := b0
      obtain ⟨b11, b12⟩ := b1
      obtain ⟨b21, b22, b23⟩ := b2
      clear e0 e1 hc
      obtain ⟨y0, hy0⟩ : ∃ y, y = sumF (loAt z) k := ⟨_, rfl⟩
      obtain ⟨y1, hy1⟩ : ∃ y, y = sumF (hiAt z) k := ⟨_, rfl⟩
      rw [← hy0] at t0 b01 b02
      rw [← hy1] at t1 b11 b12
      have Y0 := hid hy0
      have Y1 := hid hy1
      clear hy0 hy1
      go_wp2_with (fail)
      go_roundw
      case rel =>
        refine ⟨k + 1, by omega, by go_num, ?_, ?_, by simp [go_sem, *], by simp [go_sem, *], by simp [go_sem]; omega, (by repeat (first | exact Ext.refl _ | assumption | refine Ext.alloc ?_ _ | refine Ext.drew ?_ | refine Ext.drewN ?_ _ | refine Ext.setCell ?_ (by first | exact Nat.le_refl _ | (simp; done) | (dsimp only; omega) | (simp only [World.size_alloc, World.size_setCell]; omega)) _ | refine Ext.trans ?_ (by assumption)))⟩
        · simp [go_sem, *]
          rw [sumF, ← Y0.out, E0.out]
        · simp [go_sem, *]
          rw [sumF, ← Y1.out, E1.out]
      case measure => simp [intOf]; omega
    · obtain rfl : k = n := by omega
      have k0 := fun q => (Ext.cells hE0).1 w.heap.size q (by simp)
      have k1 := fun q => (Ext.cells hE0).2 w.heap.size q (by simp)
      clear hc
      go_wp2_with (fail)
      refine (checkedBound_any _ _ _).mono ?_
      rintro e w2 ⟨rfl, hb2⟩
      have j0 := fun q => (Ext.cells hb2).1 w.heap.size q (by omega)
      have j1 := fun q => (Ext.cells hb2).2 w.heap.size q (by omega)
      go_wp2_with (fail)
      refine bodyPost_ret (v := .tuple #[.agg #[.int .i64 (okV (bnd (chainLo z k) (chainHi z k)) (chainLo z k)), .int .i64 (okV (bnd (chainLo z k) (chainHi z k)) (chainHi z k))], .bool (bnd (chainLo z k) (chainHi z k))]) (by simp [results, Try.results39, go_sem, *, chainLo, chainHi]) rfl ⟨rfl, (by repeat (first | exact Ext.refl _ | assumption | refine Ext.alloc ?_ _ | refine Ext.drew ?_ | refine Ext.drewN ?_ _ | refine Ext.setCell ?_ (by first | exact Nat.le_refl _ | (simp; done) | (dsimp only; omega) | (simp only [World.size_alloc, World.size_setCell]; omega)) _ | refine Ext.trans ?_ (by assumption)))⟩

set_option maxHeartbeats 800000 in
theorem sChain_main (v : Value) (n : Nat) (z : List Int) (w : World) (h : IntRow .i64 2 w v n z) (h1 : okBs z n = true) (h2 : inR n 1 20 = true) :
    Calls Try.prog 37 #[v] w fun e w' => e = .returned (.tuple #[.agg #[.int .i64 (okV (bnd (chainLo z n) (chainHi z n)) (chainLo z n)), .int .i64 (okV (bnd (chainLo z n) (chainHi z n)) (chainHi z n))], .bool (bnd (chainLo z n) (chainHi z n))]) ∧ Ext w w' := by
  obtain ⟨g1, g2⟩ := inR_iff.1 h2
  have hh := h
  obtain ⟨hl, hm, hwf, a, c, rfl, hnc, hcm, hcell⟩ := h
  obtain ⟨b, o, rfl, hb, hc⟩ := hcell.resolve_left (by omega)
  clear hcell hm hcm hwf
  have HB := hid (okBs_bd h1)
  have H12 := hid (And.intro h1 h2)
  clear h1 h2
  go_enter Try.func37, Try.ntmps37
  go_wp2_with (fail)
  have hrow := hh.ext ((Ext.refl w).alloc (.cells #[.int .i64 0, .int .i64 0] 25))
  refine (clList_any _ _ _ _ hrow).mono ?_
  rw [H12.out.1, H12.out.2]
  clear hrow hh
  rintro e w1 ⟨rfl, hb1⟩
  have hz1 := Ext.size hb1
  simp only [World.size_alloc] at hz1
  go_wp2_with (fail)
  go_loopw [4, 5, 14] (fun lo hi i wr => ∃ (k : Nat), k ≤ n ∧ i = .int .i64 (k : Int) ∧ lo = .int .i64 (sumF (loAt z) k) ∧ hi = .int .i64 (sumF (hiAt z) k) ∧ Ext (w.alloc (.cells #[.int .i64 0, .int .i64 0] 25)) wr)
    (fun _ _ i _ => n - (intOf i).toNat)
  case atStart => exact ⟨0, Nat.zero_le _, rfl, rfl, rfl, (by repeat (first | exact Ext.refl _ | assumption | refine Ext.alloc ?_ _ | refine Ext.drew ?_ | refine Ext.drewN ?_ _ | refine Ext.setCell ?_ (by first | exact Nat.le_refl _ | (simp; done) | (dsimp only; omega) | (simp only [World.size_alloc, World.size_setCell]; omega)) _ | refine Ext.trans ?_ (by assumption)))⟩
  case round =>
    obtain ⟨k, hk, rfl, rfl, rfl, hE0⟩ := hrel
    have hE : Ext w wr := ((Ext.refl w).alloc _).trans hE0
    by_cases hlt : k < n
    · have b0 := sumF_bd (g := loAt z) (m := 100000) (n := n) (by omega) (fun j hj => by have := HB.out j hj; omega) k (by omega)
      have b1 := sumF_bd (g := hiAt z) (m := 100000) (n := n) (by omega) (fun j hj => by have := HB.out j hj; omega) k (by omega)
      have b2 := HB.out k hlt
      obtain ⟨x0, hx0⟩ : ∃ x, x = z.getD (k * 2) 0 := ⟨_, rfl⟩
      have s0 : wr.cell? ⟨b, o + k * 2, none⟩ = some (.int .i64 x0) := by rw [(Ext.cells hE).1 _ _ hb, show o + k * 2 = o + (k * 2) by omega, hc _ (by omega), hx0]
      have H0 := hid hx0
      clear hx0
      obtain ⟨x1, hx1⟩ : ∃ x, x = z.getD (k * 2 + 1) 0 := ⟨_, rfl⟩
      have s1 : wr.cell? ⟨b, o + k * 2 + 1, none⟩ = some (.int .i64 x1) := by rw [(Ext.cells hE).1 _ _ hb, show o + k * 2 + 1 = o + (k * 2 + 1) by omega, hc _ (by omega), hx1]
      have H1 := hid hx1
      clear hx1
      have e0 : loAt z k = x0 := H0.out.symm
      have e1 : hiAt z k = x1 := H1.out.symm
      rw [e0, e1] at b2
      have E0 := hid e0
      have E1 := hid e1
      obtain ⟨b01, b02⟩ := b0
      obtain ⟨b11, b12⟩ := b1
      obtain ⟨b21, b22, b23⟩ := b2
      clear e0 e1 hc
      go_wp2_with (fail)
      go_roundw
      case rel =>
        refine ⟨k + 1, by omega, by go_num, ?_, ?_, (by repeat (first | exact Ext.refl _ | assumption | refine Ext.alloc ?_ _ | refine Ext.drew ?_ | refine Ext.drewN ?_ _ | refine Ext.setCell ?_ (by first | exact Nat.le_refl _ | (simp; done) | (dsimp only; omega) | (simp only [World.size_alloc, World.size_setCell]; omega)) _ | refine Ext.trans ?_ (by assumption)))⟩
        · rw [sumF, E0.out]
        · rw [sumF, E1.out]
      case measure => simp [intOf]; omega
    · obtain rfl : k = n := by omega
      have k0 := fun q => (Ext.cells hE0).1 w.heap.size q (by simp)
      have k1 := fun q => (Ext.cells hE0).2 w.heap.size q (by simp)
      have hz2 := Ext.size hE0
      simp only [World.size_alloc] at hz2
      clear hc
      go_wp2_with (fail)
      refine (clIf_any _ _ _).mono ?_
      rintro e w2 ⟨rfl, hb2⟩
      have j0 := fun q => (Ext.cells hb2).1 w.heap.size q (by omega)
      have j1 := fun q => (Ext.cells hb2).2 w.heap.size q (by omega)
      go_wp2_with (fail)
      refine bodyPost_ret (v := .tuple #[.agg #[.int .i64 (okV (bnd (chainLo z k) (chainHi z k)) (chainLo z k)), .int .i64 (okV (bnd (chainLo z k) (chainHi z k)) (chainHi z k))], .bool (bnd (chainLo z k) (chainHi z k))]) (by simp [results, Try.results37, go_sem, *, chainLo, chainHi]) rfl ⟨rfl, (by repeat (first | exact Ext.refl _ | assumption | refine Ext.alloc ?_ _ | refine Ext.drew ?_ | refine Ext.drewN ?_ _ | refine Ext.setCell ?_ (by first | exact Nat.le_refl _ | (simp; done) | (dsimp only; omega) | (simp only [World.size_alloc, World.size_setCell]; omega)) _ | refine Ext.trans ?_ (by assumption)))⟩

/-- the greatest, the least of the first values (the first one counted from the beginning) -/
def maxF (g : Nat → Int) : Nat → Int
  | 0 => g 0
  | k + 1 => max (maxF g k) (g k)
def minF (g : Nat → Int) : Nat → Int
  | 0 => g 0
  | k + 1 => min (minF g k) (g k)
def meetLo (z : List Int) (n : Nat) : Int := maxF (loAt z) n
def meetHi (z : List Int) (n : Nat) : Int := minF (hiAt z) n

set_option maxHeartbeats 400000 in
theorem l1Most_any (a b : Int) (w : World) : Calls Try.prog 63 #[.int .i64 a, .int .i64 b] w fun e w' => e = .returned (.int .i64 (max a b)) ∧ w = w' := by
  go_enter Try.func63, Try.ntmps63
  go_wp2
  all_goals (go_ret; refine ⟨ret_int ?_, rfl⟩)
  all_goals first | rw [Int.max_eq_left (by omega)] | rw [Int.max_eq_right (by omega)]

set_option maxHeartbeats 400000 in
theorem l1Least_any (a b : Int) (w : World) : Calls Try.prog 64 #[.int .i64 a, .int .i64 b] w fun e w' => e = .returned (.int .i64 (min a b)) ∧ w = w' := by
  go_enter Try.func64, Try.ntmps64
  go_wp2
  all_goals (go_ret; refine ⟨ret_int ?_, rfl⟩)
  all_goals first | rw [Int.min_eq_left (by omega)] | rw [Int.min_eq_right (by omega)]

set_option maxHeartbeats 800000 in
theorem iMeet_main (v : Value) (n : Nat) (z : List Int) (w : World) (h : IntRow .i64 2 w v n z) (h1 : okBs z n = true) (h2 : inR n 1 20 = true) :
    Calls Try.prog 42 #[v] w fun e w' => e = .returned (.tuple #[.agg #[.int .i64 (okV (bnd (meetLo z n) (meetHi z n)) (meetLo z n)), .int .i64 (okV (bnd (meetLo z n) (meetHi z n)) (meetHi z n))], .bool (bnd (meetLo z n) (meetHi z n))]) ∧ Ext w w' := by
  obtain ⟨g1, g2⟩ := inR_iff.1 h2
  have hh := h
  obtain ⟨hl, hm, hwf, a, c, rfl, hnc, hcm, hcell⟩ := h
  obtain ⟨b, o, rfl, hb, hc⟩ := hcell.resolve_left (by omega)
  clear hcell hm hcm hwf
  have H12 := hid (And.intro h1 h2)
  clear h1 h2
  go_enter Try.func42, Try.ntmps42
  go_wp2_with (fail)
  have hrow := hh.ext ((Ext.refl w).alloc (.cells #[.int .i64 0, .int .i64 0] 25))
  refine (areBounds_any _ _ _ _ hrow).mono ?_
  rw [H12.out.1, H12.out.2]
  clear hrow hh
  rintro e w1 ⟨rfl, hb1⟩
  have hz1 := Ext.size hb1
  simp only [World.size_alloc] at hz1
  have hE1 : Ext w w1 := ((Ext.refl w).alloc _).trans hb1
  obtain ⟨a0, ha0⟩ : ∃ x, x = loAt z 0 := ⟨_, rfl⟩
  obtain ⟨a1, ha1⟩ : ∃ x, x = hiAt z 0 := ⟨_, rfl⟩
  have p0 : w1.cell? ⟨b, o, none⟩ = some (.int .i64 a0) := by rw [(Ext.cells hE1).1 _ _ hb, ha0]; exact hc 0 (by omega)
  have p1 : w1.cell? ⟨b, o + 1, none⟩ = some (.int .i64 a1) := by rw [(Ext.cells hE1).1 _ _ hb, ha1]; exact hc 1 (by omega)
  have A0 := hid ha0
  have A1 := hid ha1
  have HC := hid hc
  clear ha0 ha1 hc
  go_wp2_with (fail)
  go_loopw [16] (fun i wr => ∃ (k : Nat), k ≤ n ∧ i = .int .i64 (k : Int) ∧ wr.cell? ⟨w1.heap.size, 0, none⟩ = some (.int .i64 (maxF (loAt z) k)) ∧ wr.cell? ⟨w1.heap.size, 1, none⟩ = some (.int .i64 (minF (hiAt z) k)) ∧
      wr.frozen? ⟨w1.heap.size, 0, none⟩ = false ∧ wr.frozen? ⟨w1.heap.size, 1, none⟩ = false ∧ w1.heap.size < wr.heap.size ∧ Ext (w.alloc (.cells #[.int .i64 0, .int .i64 0] 25)) wr)
    (fun i _ => n - (intOf i).toNat)
  case atStart => exact ⟨0, Nat.zero_le _, rfl, by simp [go_sem, maxF, A0.out], by simp [go_sem, minF, A1.out], by simp [go_sem], by simp [go_sem], by simp, (by repeat (first | exact Ext.refl _ | assumption | refine Ext.alloc ?_ _ | refine Ext.drew ?_ | refine Ext.drewN ?_ _ | refine Ext.setCell ?_ (by first | exact Nat.le_refl _ | (simp; done) | (dsimp only; omega) | (simp only [World.size_alloc, World.size_setCell]; omega)) _ | refine Ext.trans ?_ (by assumption)))⟩
  case round =>
    obtain ⟨k, hk, rfl, t0, t1, f0, f1, hsz, hE0⟩ := hrel
    clear p0 p1
    have hE : Ext w wr := ((Ext.refl w).alloc _).trans hE0
    by_cases hlt : k < n
    · have hc := HC.out
      obtain ⟨x0, hx0⟩ : ∃ x, x = z.getD (k * 2) 0 := ⟨_, rfl⟩
      have s0 : wr.cell? ⟨b, o + k * 2, none⟩ = some (.int .i64 x0) := by rw [(Ext.cells hE).1 _ _ hb, show o + k * 2 = o + (k * 2) by omega, hc _ (by omega), hx0]
      have H0 := hid hx0
      clear hx0
      obtain ⟨x1, hx1⟩ : ∃ x, x = z.getD (k * 2 + 1) 0 := ⟨_, rfl⟩
      have s1 : wr.cell? ⟨b, o + k * 2 + 1, none⟩ = some (.int .i64 x1) := by rw [(Ext.cells hE).1 _ _ hb, show o + k * 2 + 1 = o + (k * 2 + 1) by omega, hc _ (by omega), hx1]
      have H1 := hid hx1
      clear hx1
      have E0 := hid (show loAt z k = x0 from H0.out.symm)
      have E1 := hid (show hiAt z k = x1 from H1.out.symm)
      clear hc
      obtain ⟨y0, hy0⟩ : ∃ y, y = maxF (loAt z) k := ⟨_, rfl⟩
      obtain ⟨y1, hy1⟩ : ∃ y, y = minF (hiAt z) k := ⟨_, rfl⟩
      rw [← hy0] at t0
      rw [← hy1] at t1
      have Y0 := hid hy0
      have Y1 := hid hy1
      clear hy0 hy1
      go_wp2_with (fail)
      all_goals
        go_roundw
        case rel =>
          refine ⟨k + 1, by omega, by go_num, ?_, ?_, by simp [go_sem, *], by simp [go_sem, *], by simp [go_sem]; omega, (by repeat (first | exact Ext.refl _ | assumption | refine Ext.alloc ?_ _ | refine Ext.drew ?_ | refine Ext.drewN ?_ _ | refine Ext.setCell ?_ (by first | exact Nat.le_refl _ | (simp; done) | (dsimp only; omega) | (simp only [World.size_alloc, World.size_setCell]; omega)) _ | refine Ext.trans ?_ (by assumption)))⟩
          · rw [maxF, ← Y0.out, E0.out]
            simp only [Int.max_def]
            first | (simp [go_sem, *]; done) | (split <;> (simp [go_sem, *]; try omega))
          · rw [minF, ← Y1.out, E1.out]
            simp only [Int.min_def]
            first | (simp [go_sem, *]; done) | (split <;> (simp [go_sem, *]; try omega))
        case measure => simp [intOf]; omega
    · obtain rfl : k = n := by omega
      have k0 := fun q => (Ext.cells hE0).1 w.heap.size q (by simp)
      have k1 := fun q => (Ext.cells hE0).2 w.heap.size q (by simp)
      have hz2 := Ext.size hE0
      simp only [World.size_alloc] at hz2
      go_wp2_with (fail)
      refine (checkedBound_any _ _ _).mono ?_
      rintro e w2 ⟨rfl, hb2⟩
      have j0 := fun q => (Ext.cells hb2).1 w.heap.size q (by omega)
      have j1 := fun q => (Ext.cells hb2).2 w.heap.size q (by omega)
      go_wp2_with (fail)
      refine bodyPost_ret (v := .tuple #[.agg #[.int .i64 (okV (bnd (meetLo z k) (meetHi z k)) (meetLo z k)), .int .i64 (okV (bnd (meetLo z k) (meetHi z k)) (meetHi z k))], .bool (bnd (meetLo z k) (meetHi z k))]) (by simp [results, Try.results42, go_sem, *, meetLo, meetHi]) rfl ⟨rfl, (by repeat (first | exact Ext.refl _ | assumption | refine Ext.alloc ?_ _ | refine Ext.drew ?_ | refine Ext.drewN ?_ _ | refine Ext.setCell ?_ (by first | exact Nat.le_refl _ | (simp; done) | (dsimp only; omega) | (simp only [World.size_alloc, World.size_setCell]; omega)) _ | refine Ext.trans ?_ (by assumption)))⟩

set_option maxHeartbeats 800000 in
theorem sMeet_main (v : Value) (n : Nat) (z : List Int) (w : World) (h : IntRow .i64 2 w v n z) (h1 : okBs z n = true) (h2 : inR n 1 20 = true) :
    Calls Try.prog 41 #[v] w fun e w' => e = .returned (.tuple #[.agg #[.int .i64 (okV (bnd (meetLo z n) (meetHi z n)) (meetLo z n)), .int .i64 (okV (bnd (meetLo z n) (meetHi z n)) (meetHi z n))], .bool (bnd (meetLo z n) (meetHi z n))]) ∧ Ext w w' := by
  obtain ⟨g1, g2⟩ := inR_iff.1 h2
  have hh := h
  obtain ⟨hl, hm, hwf, a, c, rfl, hnc, hcm, hcell⟩ := h
  obtain ⟨b, o, rfl, hb, hc⟩ := hcell.resolve_left (by omega)
  clear hcell hm hcm hwf
  have H12 := hid (And.intro h1 h2)
  clear h1 h2
  go_enter Try.func41, Try.ntmps41
  go_wp2_with (fail)
  have hrow := hh.ext ((Ext.refl w).alloc (.cells #[.int .i64 0, .int .i64 0] 25))
  refine (clList_any _ _ _ _ hrow).mono ?_
  rw [H12.out.1, H12.out.2]
  clear hrow hh
  rintro e w1 ⟨rfl, hb1⟩
  have hz1 := Ext.size hb1
  simp only [World.size_alloc] at hz1
  have hE1 : Ext w w1 := ((Ext.refl w).alloc _).trans hb1
  obtain ⟨a0, ha0⟩ : ∃ x, x = loAt z 0 := ⟨_, rfl⟩
  obtain ⟨a1, ha1⟩ : ∃ x, x = hiAt z 0 := ⟨_, rfl⟩
  have p0 : w1.cell? ⟨b, o, none⟩ = some (.int .i64 a0) := by rw [(Ext.cells hE1).1 _ _ hb, ha0]; exact hc 0 (by omega)
  have p1 : w1.cell? ⟨b, o + 1, none⟩ = some (.int .i64 a1) := by rw [(Ext.cells hE1).1 _ _ hb, ha1]; exact hc 1 (by omega)
  have A0 := hid ha0
  have A1 := hid ha1
  have HC := hid hc
  clear ha0 ha1 hc
  go_wp2_with (fail)
  go_loopw [16] (fun i wr => ∃ (k : Nat), k ≤ n ∧ i = .int .i64 (k : Int) ∧ wr.cell? ⟨w1.heap.size, 0, none⟩ = some (.int .i64 (maxF (loAt z) k)) ∧ wr.cell? ⟨w1.heap.size, 1, none⟩ = some (.int .i64 (minF (hiAt z) k)) ∧
      wr.frozen? ⟨w1.heap.size, 0, none⟩ = false ∧ wr.frozen? ⟨w1.heap.size, 1, none⟩ = false ∧ w1.heap.size < wr.heap.size ∧ Ext (w.alloc (.cells #[.int .i64 0, .int .i64 0] 25)) wr)
    (fun i _ => n - (intOf i).toNat)
  case atStart => exact ⟨0, Nat.zero_le _, rfl, by simp [go_sem, maxF, A0.out], by simp [go_sem, minF, A1.out], by simp [go_sem], by simp [go_sem], by simp, (by repeat (first | exact Ext.refl _ | assumption | refine Ext.alloc ?_ _ | refine Ext.drew ?_ | refine Ext.drewN ?_ _ | refine Ext.setCell ?_ (by first | exact Nat.le_refl _ | (simp; done) | (dsimp only; omega) | (simp only [World.size_alloc, World.size_setCell]; omega)) _ | refine Ext.trans ?_ (by assumption)))⟩
  case round =>
    obtain ⟨k, hk, rfl, t0, t1, f0, f1, hsz, hE0⟩ := hrel
    clear p0 p1
    have hE : Ext w wr := ((Ext.refl w).alloc _).trans hE0
    by_cases hlt : k < n
    · have hc := HC.out
      obtain ⟨x0, hx0⟩ : ∃ x, x = z.getD (k * 2) 0 := ⟨_, rfl⟩
      have s0 : wr.cell? ⟨b, o + k * 2, none⟩ = some (.int .i64 x0) := by rw [(Ext.cells hE).1 _ _ hb, show o + k * 2 = o + (k * 2) by omega, hc _ (by omega), hx0]
      have H0 := hid hx0
      clear hx0
      obtain ⟨x1, hx1⟩ : ∃ x, x = z.getD (k * 2 + 1) 0 := ⟨_, rfl⟩
      have s1 : wr.cell? ⟨b, o + k * 2 + 1, none⟩ = some (.int .i64 x1) := by rw [(Ext.cells hE).1 _ _ hb, show o + k * 2 + 1 = o + (k * 2 + 1) by omega, hc _ (by omega), hx1]
      have H1 := hid hx1
      clear hx1
      have E0 := hid (show loAt z k = x0 from H0.out.symm)
      have E1 := hid (show hiAt z k = x1 from H1.out.symm)
      clear hc
      obtain ⟨y0, hy0⟩ : ∃ y, y = maxF (loAt z) k := ⟨_, rfl⟩
      obtain ⟨y1, hy1⟩ : ∃ y, y = minF (hiAt z) k := ⟨_, rfl⟩
      rw [← hy0] at t0
      rw [← hy1] at t1
      have Y0 := hid hy0
      have Y1 := hid hy1
      clear hy0 hy1
      go_wp2_with (first | (go_at_call 63; refine (l1Most_any _ _ _).mono ?_; rintro e w' ⟨rfl, rfl⟩) | (go_at_call 64; refine (l1Least_any _ _ _).mono ?_; rintro e w' ⟨rfl, rfl⟩))
      all_goals
        go_roundw
        case rel =>
          refine ⟨k + 1, by omega, by go_num, ?_, ?_, by simp [go_sem, *], by simp [go_sem, *], by simp [go_sem]; omega, (by repeat (first | exact Ext.refl _ | assumption | refine Ext.alloc ?_ _ | refine Ext.drew ?_ | refine Ext.drewN ?_ _ | refine Ext.setCell ?_ (by first | exact Nat.le_refl _ | (simp; done) | (dsimp only; omega) | (simp only [World.size_alloc, World.size_setCell]; omega)) _ | refine Ext.trans ?_ (by assumption)))⟩
          · rw [maxF, ← Y0.out, E0.out]
            simp only [Int.max_def]
            first | (simp [go_sem, *]; done) | (split <;> (simp [go_sem, *]; try omega))
          · rw [minF, ← Y1.out, E1.out]
            simp only [Int.min_def]
            first | (simp [go_sem, *]; done) | (split <;> (simp [go_sem, *]; try omega))
        case measure => simp [intOf]; omega
    · obtain rfl : k = n := by omega
      have k0 := fun q => (Ext.cells hE0).1 w.heap.size q (by simp)
      have k1 := fun q => (Ext.cells hE0).2 w.heap.size q (by simp)
      have hz2 := Ext.size hE0
      simp only [World.size_alloc] at hz2
      go_wp2_with (fail)
      refine (clIf_any _ _ _).mono ?_
      rintro e w2 ⟨rfl, hb2⟩
      have j0 := fun q => (Ext.cells hb2).1 w.heap.size q (by omega)
      have j1 := fun q => (Ext.cells hb2).2 w.heap.size q (by omega)
      go_wp2_with (fail)
      refine bodyPost_ret (v := .tuple #[.agg #[.int .i64 (okV (bnd (meetLo z k) (meetHi z k)) (meetLo z k)), .int .i64 (okV (bnd (meetLo z k) (meetHi z k)) (meetHi z k))], .bool (bnd (meetLo z k) (meetHi z k))]) (by simp [results, Try.results41, go_sem, *, meetLo, meetHi]) rfl ⟨rfl, (by repeat (first | exact Ext.refl _ | assumption | refine Ext.alloc ?_ _ | refine Ext.drew ?_ | refine Ext.drewN ?_ _ | refine Ext.setCell ?_ (by first | exact Nat.le_refl _ | (simp; done) | (dsimp only; omega) | (simp only [World.size_alloc, World.size_setCell]; omega)) _ | refine Ext.trans ?_ (by assumption)))⟩

set_option maxHeartbeats 400000 in
theorem iChain_any (v : Value) (n : Nat) (z : List Int) (w : World) (h : IntRow .i64 2 w v n z) :
    Calls Try.prog 39 #[v] w fun e w' => e = .returned (.tuple #[.agg #[.int .i64 (okV (okBs z n && inR n 1 20) (okV (bnd (chainLo z n) (chainHi z n)) (chainLo z n))), .int .i64 (okV (okBs z n && inR n 1 20) (okV (bnd (chainLo z n) (chainHi z n)) (chainHi z n)))], .bool ((okBs z n && inR n 1 20) && bnd (chainLo z n) (chainHi z n))]) ∧ Ext w w' := by
  by_cases h1 : okBs z n = true
  · by_cases h2 : inR n 1 20 = true
    · rw [h1, h2]
      simp only [Bool.and_self, okV_t, Bool.true_and]
      exact iChain_main v n z w h h1 h2
    · have h2 : inR n 1 20 = false := by simpa using h2
      have hc : (okBs z n && inR n 1 20) = false := by rw [h2, Bool.and_false]
      rw [hc]
      simp only [okV_f, Bool.false_and]
      have HC := hid hc
      clear hc h1 h2
      go_enter Try.func39, Try.ntmps39
      go_wp2_with (fail)
      refine (areBounds_any _ n z _ (h.ext (by repeat (first | exact Ext.refl _ | assumption | refine Ext.alloc ?_ _ | refine Ext.drew ?_ | refine Ext.drewN ?_ _ | refine Ext.setCell ?_ (by first | exact Nat.le_refl _ | (simp; done) | (dsimp only; omega) | (simp only [World.size_alloc, World.size_setCell]; omega)) _ | refine Ext.trans ?_ (by assumption))))).mono ?_
      rw [HC.out]
      rintro e w1 ⟨rfl, hb1⟩
      have j0 := fun q => (Ext.cells hb1).1 w.heap.size q (by simp)
      have j1 := fun q => (Ext.cells hb1).2 w.heap.size q (by simp)
      go_wp2_with (fail)
      exact bodyPost_ret (v := .tuple #[.agg #[.int .i64 0, .int .i64 0], .bool false]) (by simp [results, Try.results39, go_sem, *]) rfl ⟨rfl, (by repeat (first | exact Ext.refl _ | assumption | refine Ext.alloc ?_ _ | refine Ext.drew ?_ | refine Ext.drewN ?_ _ | refine Ext.setCell ?_ (by first | exact Nat.le_refl _ | (simp; done) | (dsimp only; omega) | (simp only [World.size_alloc, World.size_setCell]; omega)) _ | refine Ext.trans ?_ (by assumption)))⟩
  · have h1 : okBs z n = false := by simpa using h1
    have hc : (okBs z n && inR n 1 20) = false := by rw [h1, Bool.false_and]
    rw [hc]
    simp only [okV_f, Bool.false_and]
    have HC := hid hc
    clear hc h1
    go_enter Try.func39, Try.ntmps39
    go_wp2_with (fail)
    refine (areBounds_any _ n z _ (h.ext (by repeat (first | exact Ext.refl _ | assumption | refine Ext.alloc ?_ _ | refine Ext.drew ?_ | refine Ext.drewN ?_ _ | refine Ext.setCell ?_ (by first | exact Nat.le_refl _ | (simp; done) | (dsimp only; omega) | (simp only [World.size_alloc, World.size_setCell]; omega)) _ | refine Ext.trans ?_ (by assumption))))).mono ?_
    rw [HC.out]
    rintro e w1 ⟨rfl, hb1⟩
    have j0 := fun q => (Ext.cells hb1).1 w.heap.size q (by simp)
    have j1 := fun q => (Ext.cells hb1).2 w.heap.size q (by simp)
    go_wp2_with (fail)
    exact bodyPost_ret (v := .tuple #[.agg #[.int .i64 0, .int .i64 0], .bool false]) (by simp [results, Try.results39, go_sem, *]) rfl ⟨rfl, (by repeat (first | exact Ext.refl _ | assumption | refine Ext.alloc ?_ _ | refine Ext.drew ?_ | refine Ext.drewN ?_ _ | refine Ext.setCell ?_ (by first | exact Nat.le_refl _ | (simp; done) | (dsimp only; omega) | (simp only [World.size_alloc, World.size_setCell]; omega)) _ | refine Ext.trans ?_ (by assumption)))⟩

set_option maxHeartbeats 400000 in
theorem iMeet_any (v : Value) (n : Nat) (z : List Int) (w : World) (h : IntRow .i64 2 w v n z) :
    Calls Try.prog 42 #[v] w fun e w' => e = .returned (.tuple #[.agg #[.int .i64 (okV (okBs z n && inR n 1 20) (okV (bnd (meetLo z n) (meetHi z n)) (meetLo z n))), .int .i64 (okV (okBs z n && inR n 1 20) (okV (bnd (meetLo z n) (meetHi z n)) (meetHi z n)))], .bool ((okBs z n && inR n 1 20) && bnd (meetLo z n) (meetHi z n))]) ∧ Ext w w' := by
  by_cases h1 : okBs z n = true
  · by_cases h2 : inR n 1 20 = true
    · rw [h1, h2]
      simp only [Bool.and_self, okV_t, Bool.true_and]
      exact iMeet_main v n z w h h1 h2
    · have h2 : inR n 1 20 = false := by simpa using h2
      have hc : (okBs z n && inR n 1 20) = false := by rw [h2, Bool.and_false]
      rw [hc]
      simp only [okV_f, Bool.false_and]
      have HC := hid hc
      clear hc h1 h2
      go_enter Try.func42, Try.ntmps42
      go_wp2_with (fail)
      refine (areBounds_any _ n z _ (h.ext (by repeat (first | exact Ext.refl _ | assumption | refine Ext.alloc ?_ _ | refine Ext.drew ?_ | refine Ext.drewN ?_ _ | refine Ext.setCell ?_ (by first | exact Nat.le_refl _ | (simp; done) | (dsimp only; omega) | (simp only [World.size_alloc, World.size_setCell]; omega)) _ | refine Ext.trans ?_ (by assumption))))).mono ?_
      rw [HC.out]
      rintro e w1 ⟨rfl, hb1⟩
      have j0 := fun q => (Ext.cells hb1).1 w.heap.size q (by simp)
      have j1 := fun q => (Ext.cells hb1).2 w.heap.size q (by simp)
      go_wp2_with (fail)
      exact bodyPost_ret (v := .tuple #[.agg #[.int .i64 0, .int .i64 0], .bool false]) (by simp [results, Try.results42, go_sem, *]) rfl ⟨rfl, (by repeat (first | exact Ext.refl _ | assumption | refine Ext.alloc ?_ _ | refine Ext.drew ?_ | refine Ext.drewN ?_ _ | refine Ext.setCell ?_ (by first | exact Nat.le_refl _ | (simp; done) | (dsimp only; omega) | (simp only [World.size_alloc, World.size_setCell]; omega)) _ | refine Ext.trans ?_ (by assumption)))⟩
  · have h1 : okBs z n = false := by simpa using h1
    have hc : (okBs z n && inR n 1 20) = false := by rw [h1, Bool.false_and]
    rw [hc]
    simp only [okV_f, Bool.false_and]
    have HC := hid hc
    clear hc h1
    go_enter Try.func42, Try.ntmps42
    go_wp2_with (fail)
    refine (areBounds_any _ n z _ (h.ext (by repeat (first | exact Ext.refl _ | assumption | refine Ext.alloc ?_ _ | refine Ext.drew ?_ | refine Ext.drewN ?_ _ | refine Ext.setCell ?_ (by first | exact Nat.le_refl _ | (simp; done) | (dsimp only; omega) | (simp only [World.size_alloc, World.size_setCell]; omega)) _ | refine Ext.trans ?_ (by assumption))))).mono ?_
    rw [HC.out]
    rintro e w1 ⟨rfl, hb1⟩
    have j0 := fun q => (Ext.cells hb1).1 w.heap.size q (by simp)
    have j1 := fun q => (Ext.cells hb1).2 w.heap.size q (by simp)
    go_wp2_with (fail)
    exact bodyPost_ret (v := .tuple #[.agg #[.int .i64 0, .int .i64 0], .bool false]) (by simp [results, Try.results42, go_sem, *]) rfl ⟨rfl, (by repeat (first | exact Ext.refl _ | assumption | refine Ext.alloc ?_ _ | refine Ext.drew ?_ | refine Ext.drewN ?_ _ | refine Ext.setCell ?_ (by first | exact Nat.le_refl _ | (simp; done) | (dsimp only; omega) | (simp only [World.size_alloc, World.size_setCell]; omega)) _ | refine Ext.trans ?_ (by assumption)))⟩

set_option maxHeartbeats 400000 in
theorem sChain_any (v : Value) (n : Nat) (z : List Int) (w : World) (h : IntRow .i64 2 w v n z) :
    Calls Try.prog 37 #[v] w fun e w' => e = .returned (.tuple #[.agg #[.int .i64 (okV (okBs z n && inR n 1 20) (okV (bnd (chainLo z n) (chainHi z n)) (chainLo z n))), .int .i64 (okV (okBs z n && inR n 1 20) (okV (bnd (chainLo z n) (chainHi z n)) (chainHi z n)))], .bool ((okBs z n && inR n 1 20) && bnd (chainLo z n) (chainHi z n))]) ∧ Ext w w' := by
  by_cases h1 : okBs z n = true
  · by_cases h2 : inR n 1 20 = true
    · rw [h1, h2]
      simp only [Bool.and_self, okV_t, Bool.true_and]
      exact sChain_main v n z w h h1 h2
    · have h2 : inR n 1 20 = false := by simpa using h2
      have hc : (okBs z n && inR n 1 20) = false := by rw [h2, Bool.and_false]
      rw [hc]
      simp only [okV_f, Bool.false_and]
      have HC := hid hc
      clear hc h1 h2
      go_enter Try.func37, Try.ntmps37
      go_wp2_with (fail)
      refine (clList_any _ n z _ (h.ext (by repeat (first | exact Ext.refl _ | assumption | refine Ext.alloc ?_ _ | refine Ext.drew ?_ | refine Ext.drewN ?_ _ | refine Ext.setCell ?_ (by first | exact Nat.le_refl _ | (simp; done) | (dsimp only; omega) | (simp only [World.size_alloc, World.size_setCell]; omega)) _ | refine Ext.trans ?_ (by assumption))))).mono ?_
      rw [HC.out]
      rintro e w1 ⟨rfl, hb1⟩
      have j0 := fun q => (Ext.cells hb1).1 w.heap.size q (by simp)
      have j1 := fun q => (Ext.cells hb1).2 w.heap.size q (by simp)
      go_wp2_with (fail)
      exact bodyPost_ret (v := .tuple #[.agg #[.int .i64 0, .int .i64 0], .bool false]) (by simp [results, Try.results37, go_sem, *]) rfl ⟨rfl, (by repeat (first | exact Ext.refl _ | assumption | refine Ext.alloc ?_ _ | refine Ext.drew ?_ | refine Ext.drewN ?_ _ | refine Ext.setCell ?_ (by first | exact Nat.le_refl _ | (simp; done) | (dsimp only; omega) | (simp only [World.size_alloc, World.size_setCell]; omega)) _ | refine Ext.trans ?_ (by assumption)))⟩
  · have h1 : okBs z n = false := by simpa using h1
    have hc : (okBs z n && inR n 1 20) = false := by rw [h1, Bool.false_and]
    rw [hc]
    simp only [okV_f, Bool.false_and]
    have HC := hid hc
    clear hc h1
    go_enter Try.func37, Try.ntmps37
    go_wp2_with (fail)
    refine (clList_any _ n z _ (h.ext (by repeat (first | exact Ext.refl _ | assumption | refine Ext.alloc ?_ _ | refine Ext.drew ?_ | refine Ext.drewN ?_ _ | refine Ext.setCell ?_ (by first | exact Nat.le_refl _ | (simp; done) | (dsimp only; omega) | (simp only [World.size_alloc, World.size_setCell]; omega)) _ | refine Ext.trans ?_ (by assumption))))).mono ?_
    rw [HC.out]
    rintro e w1 ⟨rfl, hb1⟩
    have j0 := fun q => (Ext.cells hb1).1 w.heap.size q (by simp)
    have j1 := fun q => (Ext.cells hb1).2 w.heap.size q (by simp)
    go_wp2_with (fail)
    exact bodyPost_ret (v := .tuple #[.agg #[.int .i64 0, .int .i64 0], .bool false]) (by simp [results, Try.results37, go_sem, *]) rfl ⟨rfl, (by repeat (first | exact Ext.refl _ | assumption | refine Ext.alloc ?_ _ | refine Ext.drew ?_ | refine Ext.drewN ?_ _ | refine Ext.setCell ?_ (by first | exact Nat.le_refl _ | (simp; done) | (dsimp only; omega) | (simp only [World.size_alloc, World.size_setCell]; omega)) _ | refine Ext.trans ?_ (by assumption)))⟩

set_option maxHeartbeats 400000 in
theorem sMeet_any (v : Value) (n : Nat) (z : List Int) (w : World) (h : IntRow .i64 2 w v n z) :
    Calls Try.prog 41 #[v] w fun e w' => e = .returned (.tuple #[.agg #[.int .i64 (okV (okBs z n && inR n 1 20) (okV (bnd (meetLo z n) (meetHi z n)) (meetLo z n))), .int .i64 (okV (okBs z n && inR n 1 20) (okV (bnd (meetLo z n) (meetHi z n)) (meetHi z n)))], .bool ((okBs z n && inR n 1 20) && bnd (meetLo z n) (meetHi z n))]) ∧ Ext w w' := by
  by_cases h1 : okBs z n = true
  · by_cases h2 : inR n 1 20 = true
    · rw [h1, h2]
      simp only [Bool.and_self, okV_t, Bool.true_and]
      exact sMeet_main v n z w h h1 h2
    · have h2 : inR n 1 20 = false := by simpa using h2
      have hc : (okBs z n && inR n 1 20) = false := by rw [h2, Bool.and_false]
      rw [hc]
      simp only [okV_f, Bool.false_and]
      have HC := hid hc
      clear hc h1 h2
      go_enter Try.func41, Try.ntmps41
      go_wp2_with (fail)
      refine (clList_any _ n z _ (h.ext (by repeat (first | exact Ext.refl _ | assumption | refine Ext.alloc ?_ _ | refine Ext.drew ?_ | refine Ext.drewN ?_ _ | refine Ext.setCell ?_ (by first | exact Nat.le_refl _ | (simp; done) | (dsimp only; omega) | (simp only [World.size_alloc, World.size_setCell]; omega)) _ | refine Ext.trans ?_ (by assumption))))).mono ?_
      rw [HC.out]
      rintro e w1 ⟨rfl, hb1⟩
      have j0 := fun q => (Ext.cells hb1).1 w.heap.size q (by simp)
      have j1 := fun q => (Ext.cells hb1).2 w.heap.size q (by simp)
      go_wp2_with (fail)
      exact bodyPost_ret (v := .tuple #[.agg #[.int .i64 0, .int .i64 0], .bool false]) (by simp [results, Try.results41, go_sem, *]) rfl ⟨rfl, (by repeat (first | exact Ext.refl _ | assumption | refine Ext.alloc ?_ _ | refine Ext.drew ?_ | refine Ext.drewN ?_ _ | refine Ext.setCell ?_ (by first | exact Nat.le_refl _ | (simp; done) | (dsimp only; omega) | (simp only [World.size_alloc, World.size_setCell]; omega)) _ | refine Ext.trans ?_ (by assumption)))⟩
  · have h1 : okBs z n = false := by simpa using h1
    have hc : (okBs z n && inR n 1 20) = false := by rw [h1, Bool.false_and]
    rw [hc]
    simp only [okV_f, Bool.false_and]
    have HC := hid hc
    clear hc h1
    go_enter Try.func41, Try.ntmps41
    go_wp2_with (fail)
    refine (clList_any _ n z _ (h.ext (by repeat (first | exact Ext.refl _ | assumption | refine Ext.alloc ?_ _ | refine Ext.drew ?_ | refine Ext.drewN ?_ _ | refine Ext.setCell ?_ (by first | exact Nat.le_refl _ | (simp; done) | (dsimp only; omega) | (simp only [World.size_alloc, World.size_setCell]; omega)) _ | refine Ext.trans ?_ (by assumption))))).mono ?_
    rw [HC.out]
    rintro e w1 ⟨rfl, hb1⟩
    have j0 := fun q => (Ext.cells hb1).1 w.heap.size q (by simp)
    have j1 := fun q => (Ext.cells hb1).2 w.heap.size q (by simp)
    go_wp2_with (fail)
    exact bodyPost_ret (v := .tuple #[.agg #[.int .i64 0, .int .i64 0], .bool false]) (by simp [results, Try.results41, go_sem, *]) rfl ⟨rfl, (by repeat (first | exact Ext.refl _ | assumption | refine Ext.alloc ?_ _ | refine Ext.drew ?_ | refine Ext.drewN ?_ _ | refine Ext.setCell ?_ (by first | exact Nat.le_refl _ | (simp; done) | (dsimp only; omega) | (simp only [World.size_alloc, World.size_setCell]; omega)) _ | refine Ext.trans ?_ (by assumption)))⟩

set_option maxHeartbeats 1000000 in
theorem walkFnExactChainBounds (v0 : Value) (n0 : Nat) (z0 : List Int) (w : World) (r0 : IntRow .i64 2 w v0 n0 z0) :
    Calls Try.prog 12 #[v0] w fun e w' => e = .returned (.bool true) ∧ Ext w w' := by
  have hsz := szBoundS_any v0 n0 z0 w 1048576 r0 (by omega) (by omega)
  by_cases hn : n0 ≤ 1048576
  · rw [if_pos (by omega)] at hsz
    have hwf := r0.2.2.1
    go_enter Try.func12, Try.ntmps12
    go_wp2_with (fail)
    refine hsz.mono ?_
    rintro e w' ⟨rfl, rfl⟩
    go_wp2_with (fail)
    refine (toBoundS_any _ n0 z0 _ (r0.ext (by repeat (first | exact Ext.refl _ | assumption | refine Ext.alloc ?_ _ | refine Ext.drew ?_ | refine Ext.drewN ?_ _ | refine Ext.setCell ?_ (by first | exact Nat.le_refl _ | (simp; done) | (dsimp only; omega) | (simp only [World.size_alloc, World.size_setCell]; omega)) _ | refine Ext.trans ?_ (by assumption)))) hn).mono ?_
    rintro e w1 ⟨g1, rfl, hr1, hb1⟩
    have hz1 := Ext.size hb1
    try simp only [World.size_alloc, World.size_setCell] at hz1
    obtain ⟨hc1, hf1⟩ := Ext.cells hb1
    try have hk1_0_0 := fun o => hc1 (w.heap.size) o (by (try simp only [World.size_alloc, World.size_setCell]); omega)
    try have hj1_0_0 := fun o => hf1 (w.heap.size) o (by (try simp only [World.size_alloc, World.size_setCell]); omega)
    try have hy1_0_0 : w.heap.size < w1.heap.size := by omega
    try have hk1_0_1 := fun o => hc1 (w.heap.size + 1) o (by (try simp only [World.size_alloc, World.size_setCell]); omega)
    try have hj1_0_1 := fun o => hf1 (w.heap.size + 1) o (by (try simp only [World.size_alloc, World.size_setCell]); omega)
    try have hy1_0_1 : w.heap.size + 1 < w1.heap.size := by omega
    try have hk1_0_2 := fun o => hc1 (w.heap.size + 1 + 1) o (by (try simp only [World.size_alloc, World.size_setCell]); omega)
    try have hj1_0_2 := fun o => hf1 (w.heap.size + 1 + 1) o (by (try simp only [World.size_alloc, World.size_setCell]); omega)
    try have hy1_0_2 : w.heap.size + 1 + 1 < w1.heap.size := by omega
    clear hc1 hf1
    go_wp2_with (fail)
    refine (sChain_any _ n0 z0 _ (row_ints (row_ext hr1 (by repeat (first | exact Ext.refl _ | assumption | refine Ext.alloc ?_ _ | refine Ext.drew ?_ | refine Ext.drewN ?_ _ | refine Ext.setCell ?_ (by first | exact Nat.le_refl _ | (simp; done) | (dsimp only; omega) | (simp only [World.size_alloc, World.size_setCell]; omega)) _ | refine Ext.trans ?_ (by assumption)))) (by unfold maxLen; omega) hwf)).mono ?_
    rintro e w2 ⟨rfl, hb2⟩
    have hz2 := Ext.size hb2
    try simp only [World.size_alloc, World.size_setCell] at hz2
    obtain ⟨hc2, hf2⟩ := Ext.cells hb2
    try have hk2_0_0 := fun o => hc2 (w.heap.size) o (by (try simp only [World.size_alloc, World.size_setCell]); omega)
    try have hj2_0_0 := fun o => hf2 (w.heap.size) o (by (try simp only [World.size_alloc, World.size_setCell]); omega)
    try have hy2_0_0 : w.heap.size < w2.heap.size := by omega
    try have hk2_0_1 := fun o => hc2 (w.heap.size + 1) o (by (try simp only [World.size_alloc, World.size_setCell]); omega)
    try have hj2_0_1 := fun o => hf2 (w.heap.size + 1) o (by (try simp only [World.size_alloc, World.size_setCell]); omega)
    try have hy2_0_1 : w.heap.size + 1 < w2.heap.size := by omega
    try have hk2_0_2 := fun o => hc2 (w.heap.size + 1 + 1) o (by (try simp only [World.size_alloc, World.size_setCell]); omega)
    try have hj2_0_2 := fun o => hf2 (w.heap.size + 1 + 1) o (by (try simp only [World.size_alloc, World.size_setCell]); omega)
    try have hy2_0_2 : w.heap.size + 1 + 1 < w2.heap.size := by omega
    try have hk2_1_0 := fun o => hc2 (w1.heap.size) o (by (try simp only [World.size_alloc, World.size_setCell]); omega)
    try have hj2_1_0 := fun o => hf2 (w1.heap.size) o (by (try simp only [World.size_alloc, World.size_setCell]); omega)
    try have hy2_1_0 : w1.heap.size < w2.heap.size := by omega
    try have hk2_1_1 := fun o => hc2 (w1.heap.size + 1) o (by (try simp only [World.size_alloc, World.size_setCell]); omega)
    try have hj2_1_1 := fun o => hf2 (w1.heap.size + 1) o (by (try simp only [World.size_alloc, World.size_setCell]); omega)
    try have hy2_1_1 : w1.heap.size + 1 < w2.heap.size := by omega
    clear hc2 hf2
    go_wp2_with (fail)
    refine (toBoundS_any _ n0 z0 _ (r0.ext (by repeat (first | exact Ext.refl _ | assumption | refine Ext.alloc ?_ _ | refine Ext.drew ?_ | refine Ext.drewN ?_ _ | refine Ext.setCell ?_ (by first | exact Nat.le_refl _ | (simp; done) | (dsimp only; omega) | (simp only [World.size_alloc, World.size_setCell]; omega)) _ | refine Ext.trans ?_ (by assumption)))) hn).mono ?_
    rintro e w3 ⟨g3, rfl, hr3, hb3⟩
    have hz3 := Ext.size hb3
    try simp only [World.size_alloc, World.size_setCell] at hz3
    obtain ⟨hc3, hf3⟩ := Ext.cells hb3
    try have hk3_0_0 := fun o => hc3 (w.heap.size) o (by (try simp only [World.size_alloc, World.size_setCell]); omega)
    try have hj3_0_0 := fun o => hf3 (w.heap.size) o (by (try simp only [World.size_alloc, World.size_setCell]); omega)
    try have hy3_0_0 : w.heap.size < w3.heap.size := by omega
    try have hk3_0_1 := fun o => hc3 (w.heap.size + 1) o (by (try simp only [World.size_alloc, World.size_setCell]); omega)
    try have hj3_0_1 := fun o => hf3 (w.heap.size + 1) o (by (try simp only [World.size_alloc, World.size_setCell]); omega)
    try have hy3_0_1 : w.heap.size + 1 < w3.heap.size := by omega
    try have hk3_0_2 := fun o => hc3 (w.heap.size + 1 + 1) o (by (try simp only [World.size_alloc, World.size_setCell]); omega)
    try have hj3_0_2 := fun o => hf3 (w.heap.size + 1 + 1) o (by (try simp only [World.size_alloc, World.size_setCell]); omega)
    try have hy3_0_2 : w.heap.size + 1 + 1 < w3.heap.size := by omega
    try have hk3_1_0 := fun o => hc3 (w1.heap.size) o (by (try simp only [World.size_alloc, World.size_setCell]); omega)
    try have hj3_1_0 := fun o => hf3 (w1.heap.size) o (by (try simp only [World.size_alloc, World.size_setCell]); omega)
    try have hy3_1_0 : w1.heap.size < w3.heap.size := by omega
    try have hk3_1_1 := fun o => hc3 (w1.heap.size + 1) o (by (try simp only [World.size_alloc, World.size_setCell]); omega)
    try have hj3_1_1 := fun o => hf3 (w1.heap.size + 1) o (by (try simp only [World.size_alloc, World.size_setCell]); omega)
    try have hy3_1_1 : w1.heap.size + 1 < w3.heap.size := by omega
    try have hk3_2_0 := fun o => hc3 (w2.heap.size) o (by (try simp only [World.size_alloc, World.size_setCell]); omega)
    try have hj3_2_0 := fun o => hf3 (w2.heap.size) o (by (try simp only [World.size_alloc, World.size_setCell]); omega)
    try have hy3_2_0 : w2.heap.size < w3.heap.size := by omega
    try have hk3_2_1 := fun o => hc3 (w2.heap.size + 1) o (by (try simp only [World.size_alloc, World.size_setCell]); omega)
    try have hj3_2_1 := fun o => hf3 (w2.heap.size + 1) o (by (try simp only [World.size_alloc, World.size_setCell]); omega)
    try have hy3_2_1 : w2.heap.size + 1 < w3.heap.size := by omega
    clear hc3 hf3
    go_wp2_with (fail)
    refine (iChain_any _ n0 z0 _ (row_ints (row_ext hr3 (by repeat (first | exact Ext.refl _ | assumption | refine Ext.alloc ?_ _ | refine Ext.drew ?_ | refine Ext.drewN ?_ _ | refine Ext.setCell ?_ (by first | exact Nat.le_refl _ | (simp; done) | (dsimp only; omega) | (simp only [World.size_alloc, World.size_setCell]; omega)) _ | refine Ext.trans ?_ (by assumption)))) (by unfold maxLen; omega) hwf)).mono ?_
    rintro e w4 ⟨rfl, hb4⟩
    have hz4 := Ext.size hb4
    try simp only [World.size_alloc, World.size_setCell] at hz4
    obtain ⟨hc4, hf4⟩ := Ext.cells hb4
    try have hk4_0_0 := fun o => hc4 (w.heap.size) o (by (try simp only [World.size_alloc, World.size_setCell]); omega)
    try have hj4_0_0 := fun o => hf4 (w.heap.size) o (by (try simp only [World.size_alloc, World.size_setCell]); omega)
    try have hy4_0_0 : w.heap.size < w4.heap.size := by omega
    try have hk4_0_1 := fun o => hc4 (w.heap.size + 1) o (by (try simp only [World.size_alloc, World.size_setCell]); omega)
    try have hj4_0_1 := fun o => hf4 (w.heap.size + 1) o (by (try simp only [World.size_alloc, World.size_setCell]); omega)
    try have hy4_0_1 : w.heap.size + 1 < w4.heap.size := by omega
    try have hk4_0_2 := fun o => hc4 (w.heap.size + 1 + 1) o (by (try simp only [World.size_alloc, World.size_setCell]); omega)
    try have hj4_0_2 := fun o => hf4 (w.heap.size + 1 + 1) o (by (try simp only [World.size_alloc, World.size_setCell]); omega)
    try have hy4_0_2 : w.heap.size + 1 + 1 < w4.heap.size := by omega
    try have hk4_1_0 := fun o => hc4 (w1.heap.size) o (by (try simp only [World.size_alloc, World.size_setCell]); omega)
    try have hj4_1_0 := fun o => hf4 (w1.heap.size) o (by (try simp only [World.size_alloc, World.size_setCell]); omega)
    try have hy4_1_0 : w1.heap.size < w4.heap.size := by omega
    try have hk4_1_1 := fun o => hc4 (w1.heap.size + 1) o (by (try simp only [World.size_alloc, World.size_setCell]); omega)
    try have hj4_1_1 := fun o => hf4 (w1.heap.size + 1) o (by (try simp only [World.size_alloc, World.size_setCell]); omega)
    try have hy4_1_1 : w1.heap.size + 1 < w4.heap.size := by omega
    try have hk4_2_0 := fun o => hc4 (w2.heap.size) o (by (try simp only [World.size_alloc, World.size_setCell]); omega)
    try have hj4_2_0 := fun o => hf4 (w2.heap.size) o (by (try simp only [World.size_alloc, World.size_setCell]); omega)
    try have hy4_2_0 : w2.heap.size < w4.heap.size := by omega
    try have hk4_2_1 := fun o => hc4 (w2.heap.size + 1) o (by (try simp only [World.size_alloc, World.size_setCell]); omega)
    try have hj4_2_1 := fun o => hf4 (w2.heap.size + 1) o (by (try simp only [World.size_alloc, World.size_setCell]); omega)
    try have hy4_2_1 : w2.heap.size + 1 < w4.heap.size := by omega
    try have hk4_3_0 := fun o => hc4 (w3.heap.size) o (by (try simp only [World.size_alloc, World.size_setCell]); omega)
    try have hj4_3_0 := fun o => hf4 (w3.heap.size) o (by (try simp only [World.size_alloc, World.size_setCell]); omega)
    try have hy4_3_0 : w3.heap.size < w4.heap.size := by omega
    try have hk4_3_1 := fun o => hc4 (w3.heap.size + 1) o (by (try simp only [World.size_alloc, World.size_setCell]); omega)
    try have hj4_3_1 := fun o => hf4 (w3.heap.size + 1) o (by (try simp only [World.size_alloc, World.size_setCell]); omega)
    try have hy4_3_1 : w3.heap.size + 1 < w4.heap.size := by omega
    clear hc4 hf4
    go_wp2_with (fail)
    refine (eqBound_same _ _ _).mono ?_
    rintro e w5 ⟨rfl, hb5⟩
    go_wp2_with (fail)
    refine (toBoundS_any _ n0 z0 _ (r0.ext (by repeat (first | exact Ext.refl _ | assumption | refine Ext.alloc ?_ _ | refine Ext.drew ?_ | refine Ext.drewN ?_ _ | refine Ext.setCell ?_ (by first | exact Nat.le_refl _ | (simp; done) | (dsimp only; omega) | (simp only [World.size_alloc, World.size_setCell]; omega)) _ | refine Ext.trans ?_ (by assumption)))) hn).mono ?_
    rintro e w6 ⟨g6, rfl, hr6, hb6⟩
    have hz6 := Ext.size hb6
    try simp only [World.size_alloc, World.size_setCell] at hz6
    obtain ⟨hc6, hf6⟩ := Ext.cells hb6
    try have hk6_0_0 := fun o => hc6 (w.heap.size) o (by (try simp only [World.size_alloc, World.size_setCell]); omega)
    try have hj6_0_0 := fun o => hf6 (w.heap.size) o (by (try simp only [World.size_alloc, World.size_setCell]); omega)
    try have hy6_0_0 : w.heap.size < w6.heap.size := by omega
    try have hk6_0_1 := fun o => hc6 (w.heap.size + 1) o (by (try simp only [World.size_alloc, World.size_setCell]); omega)
    try have hj6_0_1 := fun o => hf6 (w.heap.size + 1) o (by (try simp only [World.size_alloc, World.size_setCell]); omega)
    try have hy6_0_1 : w.heap.size + 1 < w6.heap.size := by omega
    try have hk6_0_2 := fun o => hc6 (w.heap.size + 1 + 1) o (by (try simp only [World.size_alloc, World.size_setCell]); omega)
    try have hj6_0_2 := fun o => hf6 (w.heap.size + 1 + 1) o (by (try simp only [World.size_alloc, World.size_setCell]); omega)
    try have hy6_0_2 : w.heap.size + 1 + 1 < w6.heap.size := by omega
    try have hk6_1_0 := fun o => hc6 (w1.heap.size) o (by (try simp only [World.size_alloc, World.size_setCell]); omega)
    try have hj6_1_0 := fun o => hf6 (w1.heap.size) o (by (try simp only [World.size_alloc, World.size_setCell]); omega)
    try have hy6_1_0 : w1.heap.size < w6.heap.size := by omega
    try have hk6_1_1 := fun o => hc6 (w1.heap.size + 1) o (by (try simp only [World.size_alloc, World.size_setCell]); omega)
    try have hj6_1_1 := fun o => hf6 (w1.heap.size + 1) o (by (try simp only [World.size_alloc, World.size_setCell]); omega)
    try have hy6_1_1 : w1.heap.size + 1 < w6.heap.size := by omega
    try have hk6_2_0 := fun o => hc6 (w2.heap.size) o (by (try simp only [World.size_alloc, World.size_setCell]); omega)
    try have hj6_2_0 := fun o => hf6 (w2.heap.size) o (by (try simp only [World.size_alloc, World.size_setCell]); omega)
    try have hy6_2_0 : w2.heap.size < w6.heap.size := by omega
    try have hk6_2_1 := fun o => hc6 (w2.heap.size + 1) o (by (try simp only [World.size_alloc, World.size_setCell]); omega)
    try have hj6_2_1 := fun o => hf6 (w2.heap.size + 1) o (by (try simp only [World.size_alloc, World.size_setCell]); omega)
    try have hy6_2_1 : w2.heap.size + 1 < w6.heap.size := by omega
    try have hk6_3_0 := fun o => hc6 (w3.heap.size) o (by (try simp only [World.size_alloc, World.size_setCell]); omega)
    try have hj6_3_0 := fun o => hf6 (w3.heap.size) o (by (try simp only [World.size_alloc, World.size_setCell]); omega)
    try have hy6_3_0 : w3.heap.size < w6.heap.size := by omega
    try have hk6_3_1 := fun o => hc6 (w3.heap.size + 1) o (by (try simp only [World.size_alloc, World.size_setCell]); omega)
    try have hj6_3_1 := fun o => hf6 (w3.heap.size + 1) o (by (try simp only [World.size_alloc, World.size_setCell]); omega)
    try have hy6_3_1 : w3.heap.size + 1 < w6.heap.size := by omega
    try have hk6_4_0 := fun o => hc6 (w4.heap.size) o (by (try simp only [World.size_alloc, World.size_setCell]); omega)
    try have hj6_4_0 := fun o => hf6 (w4.heap.size) o (by (try simp only [World.size_alloc, World.size_setCell]); omega)
    try have hy6_4_0 : w4.heap.size < w6.heap.size := by omega
    try have hk6_4_1 := fun o => hc6 (w4.heap.size + 1) o (by (try simp only [World.size_alloc, World.size_setCell]); omega)
    try have hj6_4_1 := fun o => hf6 (w4.heap.size + 1) o (by (try simp only [World.size_alloc, World.size_setCell]); omega)
    try have hy6_4_1 : w4.heap.size + 1 < w6.heap.size := by omega
    try have hk6_5_0 := fun o => hc6 (w5.heap.size) o (by (try simp only [World.size_alloc, World.size_setCell]); omega)
    try have hj6_5_0 := fun o => hf6 (w5.heap.size) o (by (try simp only [World.size_alloc, World.size_setCell]); omega)
    try have hy6_5_0 : w5.heap.size < w6.heap.size := by omega
    try have hk6_5_1 := fun o => hc6 (w5.heap.size + 1) o (by (try simp only [World.size_alloc, World.size_setCell]); omega)
    try have hj6_5_1 := fun o => hf6 (w5.heap.size + 1) o (by (try simp only [World.size_alloc, World.size_setCell]); omega)
    try have hy6_5_1 : w5.heap.size + 1 < w6.heap.size := by omega
    clear hc6 hf6
    go_wp2_with (fail)
    refine (eqBoundS_same _ _ n0 z0 _ (row_ints (row_ext hr3 (by repeat (first | exact Ext.refl _ | assumption | refine Ext.alloc ?_ _ | refine Ext.drew ?_ | refine Ext.drewN ?_ _ | refine Ext.setCell ?_ (by first | exact Nat.le_refl _ | (simp; done) | (dsimp only; omega) | (simp only [World.size_alloc, World.size_setCell]; omega)) _ | refine Ext.trans ?_ (by assumption)))) (by unfold maxLen; omega) hwf) (row_ints (row_ext hr6 (by repeat (first | exact Ext.refl _ | assumption | refine Ext.alloc ?_ _ | refine Ext.drew ?_ | refine Ext.drewN ?_ _ | refine Ext.setCell ?_ (by first | exact Nat.le_refl _ | (simp; done) | (dsimp only; omega) | (simp only [World.size_alloc, World.size_setCell]; omega)) _ | refine Ext.trans ?_ (by assumption)))) (by unfold maxLen; omega) hwf)).mono ?_
    rintro e w7 ⟨rfl, hb7⟩
    go_wp2_with (fail)
    go_ret
    exact ⟨rfl, (by repeat (first | exact Ext.refl _ | assumption | refine Ext.alloc ?_ _ | refine Ext.drew ?_ | refine Ext.drewN ?_ _ | refine Ext.setCell ?_ (by first | exact Nat.le_refl _ | (simp; done) | (dsimp only; omega) | (simp only [World.size_alloc, World.size_setCell]; omega)) _ | refine Ext.trans ?_ (by assumption)))⟩
  · rw [if_neg (by omega)] at hsz
    go_enter Try.func12, Try.ntmps12
    go_wp2_with (fail)
    refine hsz.mono ?_
    rintro e w' ⟨rfl, rfl⟩
    go_wp2_with (fail)
    go_ret
    exact ⟨rfl, Ext.refl _⟩

set_option maxHeartbeats 1000000 in
theorem walkFnExactMeetBounds (v0 : Value) (n0 : Nat) (z0 : List Int) (w : World) (r0 : IntRow .i64 2 w v0 n0 z0) :
    Calls Try.prog 13 #[v0] w fun e w' => e = .returned (.bool true) ∧ Ext w w' := by
  have hsz := szBoundS_any v0 n0 z0 w 1048576 r0 (by omega) (by omega)
  by_cases hn : n0 ≤ 1048576
  · rw [if_pos (by omega)] at hsz
    have hwf := r0.2.2.1
    go_enter Try.func13, Try.ntmps13
    go_wp2_with (fail)
    refine hsz.mono ?_
    rintro e w' ⟨rfl, rfl⟩
    go_wp2_with (fail)
    refine (toBoundS_any _ n0 z0 _ (r0.ext (by repeat (first | exact Ext.refl _ | assumption | refine Ext.alloc ?_ _ | refine Ext.drew ?_ | refine Ext.drewN ?_ _ | refine Ext.setCell ?_ (by first | exact Nat.le_refl _ | (simp; done) | (dsimp only; omega) | (simp only [World.size_alloc, World.size_setCell]; omega)) _ | refine Ext.trans ?_ (by assumption)))) hn).mono ?_
    rintro e w1 ⟨g1, rfl, hr1, hb1⟩
    have hz1 := Ext.size hb1
    try simp only [World.size_alloc, World.size_setCell] at hz1
    obtain ⟨hc1, hf1⟩ := Ext.cells hb1
    try have hk1_0_0 := fun o => hc1 (w.heap.size) o (by (try simp only [World.size_alloc, World.size_setCell]); omega)
    try have hj1_0_0 := fun o => hf1 (w.heap.size) o (by (try simp only [World.size_alloc, World.size_setCell]); omega)
    try have hy1_0_0 : w.heap.size < w1.heap.size := by omega
    try have hk1_0_1 := fun o => hc1 (w.heap.size + 1) o (by (try simp only [World.size_alloc, World.size_setCell]); omega)
    try have hj1_0_1 := fun o => hf1 (w.heap.size + 1) o (by (try simp only [World.size_alloc, World.size_setCell]); omega)
    try have hy1_0_1 : w.heap.size + 1 < w1.heap.size := by omega
    try have hk1_0_2 := fun o => hc1 (w.heap.size + 1 + 1) o (by (try simp only [World.size_alloc, World.size_setCell]); omega)
    try have hj1_0_2 := fun o => hf1 (w.heap.size + 1 + 1) o (by (try simp only [World.size_alloc, World.size_setCell]); omega)
    try have hy1_0_2 : w.heap.size + 1 + 1 < w1.heap.size := by omega
    clear hc1 hf1
    go_wp2_with (fail)
    refine (sMeet_any _ n0 z0 _ (row_ints (row_ext hr1 (by repeat (first | exact Ext.refl _ | assumption | refine Ext.alloc ?_ _ | refine Ext.drew ?_ | refine Ext.drewN ?_ _ | refine Ext.setCell ?_ (by first | exact Nat.le_refl _ | (simp; done) | (dsimp only; omega) | (simp only [World.size_alloc, World.size_setCell]; omega)) _ | refine Ext.trans ?_ (by assumption)))) (by unfold maxLen; omega) hwf)).mono ?_
    rintro e w2 ⟨rfl, hb2⟩
    have hz2 := Ext.size hb2
    try simp only [World.size_alloc, World.size_setCell] at hz2
    obtain ⟨hc2, hf2⟩ := Ext.cells hb2
    try have hk2_0_0 := fun o => hc2 (w.heap.size) o (by (try simp only [World.size_alloc, World.size_setCell]); omega)
    try have hj2_0_0 := fun o => hf2 (w.heap.size) o (by (try simp only [World.size_alloc, World.size_setCell]); omega)
    try have hy2_0_0 : w.heap.size < w2.heap.size := by omega
    try have hk2_0_1 := fun o => hc2 (w.heap.size + 1) o (by (try simp only [World.size_alloc, World.size_setCell]); omega)
    try have hj2_0_1 := fun o => hf2 (w.heap.size + 1) o (by (try simp only [World.size_alloc, World.size_setCell]); omega)
    try have hy2_0_1 : w.heap.size + 1 < w2.heap.size := by omega
    try have hk2_0_2 := fun o => hc2 (w.heap.size + 1 + 1) o (by (try simp only [World.size_alloc, World.size_setCell]); omega)
    try have hj2_0_2 := fun o => hf2 (w.heap.size + 1 + 1) o (by (try simp only [World.size_alloc, World.size_setCell]); omega)
    try have hy2_0_2 : w.heap.size + 1 + 1 < w2.heap.size := by omega
    try have hk2_1_0 := fun o => hc2 (w1.heap.size) o (by (try simp only [World.size_alloc, World.size_setCell]); omega)
    try have hj2_1_0 := fun o => hf2 (w1.heap.size) o (by (try simp only [World.size_alloc, World.size_setCell]); omega)
    try have hy2_1_0 : w1.heap.size < w2.heap.size := by omega
    try have hk2_1_1 := fun o => hc2 (w1.heap.size + 1) o (by (try simp only [World.size_alloc, World.size_setCell]); omega)
    try have hj2_1_1 := fun o => hf2 (w1.heap.size + 1) o (by (try simp only [World.size_alloc, World.size_setCell]); omega)
    try have hy2_1_1 : w1.heap.size + 1 < w2.heap.size := by omega
    clear hc2 hf2
    go_wp2_with (fail)
    refine (toBoundS_any _ n0 z0 _ (r0.ext (by repeat (first | exact Ext.refl _ | assumption | refine Ext.alloc ?_ _ | refine Ext.drew ?_ | refine Ext.drewN ?_ _ | refine Ext.setCell ?_ (by first | exact Nat.le_refl _ | (simp; done) | (dsimp only; omega) | (simp only [World.size_alloc, World.size_setCell]; omega)) _ | refine Ext.trans ?_ (by assumption)))) hn).mono ?_
    rintro e w3 ⟨g3, rfl, hr3, hb3⟩
    have hz3 := Ext.size hb3
    try simp only [World.size_alloc, World.size_setCell] at hz3
    obtain ⟨hc3, hf3⟩ := Ext.cells hb3
    try have hk3_0_0 := fun o => hc3 (w.heap.size) o (by (try simp only [World.size_alloc, World.size_setCell]); omega)
    try have hj3_0_0 := fun o => hf3 (w.heap.size) o (by (try simp only [World.size_alloc, World.size_setCell]); omega)
    try have hy3_0_0 : w.heap.size < w3.heap.size := by omega
    try have hk3_0_1 := fun o => hc3 (w.heap.size + 1) o (by (try simp only [World.size_alloc, World.size_setCell]); omega)
    try have hj3_0_1 := fun o => hf3 (w.heap.size + 1) o (by (try simp only [World.size_alloc, World.size_setCell]); omega)
    try have hy3_0_1 : w.heap.size + 1 < w3.heap.size := by omega
    try have hk3_0_2 := fun o => hc3 (w.heap.size + 1 + 1) o (by (try simp only [World.size_alloc, World.size_setCell]); omega)
    try have hj3_0_2 := fun o => hf3 (w.heap.size + 1 + 1) o (by (try simp only [World.size_alloc, World.size_setCell]); omega)
    try have hy3_0_2 : w.heap.size + 1 + 1 < w3.heap.size := by omega
    try have hk3_1_0 := fun o => hc3 (w1.heap.size) o (by (try simp only [World.size_alloc, World.size_setCell]); omega)
    try have hj3_1_0 := fun o => hf3 (w1.heap.size) o (by (try simp only [World.size_alloc, World.size_setCell]); omega)
    try have hy3_1_0 : w1.heap.size < w3.heap.size := by omega
    try have hk3_1_1 := fun o => hc3 (w1.heap.size + 1) o (by (try simp only [World.size_alloc, World.size_setCell]); omega)
    try have hj3_1_1 := fun o => hf3 (w1.heap.size + 1) o (by (try simp only [World.size_alloc, World.size_setCell]); omega)
    try have hy3_1_1 : w1.heap.size + 1 < w3.heap.size := by omega
    try have hk3_2_0 := fun o => hc3 (w2.heap.size) o (by (try simp only [World.size_alloc, World.size_setCell]); omega)
    try have hj3_2_0 := fun o => hf3 (w2.heap.size) o (by (try simp only [World.size_alloc, World.size_setCell]); omega)
    try have hy3_2_0 : w2.heap.size < w3.heap.size := by omega
    try have hk3_2_1 := fun o => hc3 (w2.heap.size + 1) o (by (try simp only [World.size_alloc, World.size_setCell]); omega)
    try have hj3_2_1 := fun o => hf3 (w2.heap.size + 1) o (by (try simp only [World.size_alloc, World.size_setCell]); omega)
    try have hy3_2_1 : w2.heap.size + 1 < w3.heap.size := by omega
    clear hc3 hf3
    go_wp2_with (fail)
    refine (iMeet_any _ n0 z0 _ (row_ints (row_ext hr3 (by repeat (first | exact Ext.refl _ | assumption | refine Ext.alloc ?_ _ | refine Ext.drew ?_ | refine Ext.drewN ?_ _ | refine Ext.setCell ?_ (by first | exact Nat.le_refl _ | (simp; done) | (dsimp only; omega) | (simp only [World.size_alloc, World.size_setCell]; omega)) _ | refine Ext.trans ?_ (by assumption)))) (by unfold maxLen; omega) hwf)).mono ?_
    rintro e w4 ⟨rfl, hb4⟩
    have hz4 := Ext.size hb4
    try simp only [World.size_alloc, World.size_setCell] at hz4
    obtain ⟨hc4, hf4⟩ := Ext.cells hb4
    try have hk4_0_0 := fun o => hc4 (w.heap.size) o (by (try simp only [World.size_alloc, World.size_setCell]); omega)
    try have hj4_0_0 := fun o => hf4 (w.heap.size) o (by (try simp only [World.size_alloc, World.size_setCell]); omega)
    try have hy4_0_0 : w.heap.size < w4.heap.size := by omega
    try have hk4_0_1 := fun o => hc4 (w.heap.size + 1) o (by (try simp only [World.size_alloc, World.size_setCell]); omega)
    try have hj4_0_1 := fun o => hf4 (w.heap.size + 1) o (by (try simp only [World.size_alloc, World.size_setCell]); omega)
    try have hy4_0_1 : w.heap.size + 1 < w4.heap.size := by omega
    try have hk4_0_2 := fun o => hc4 (w.heap.size + 1 + 1) o (by (try simp only [World.size_alloc, World.size_setCell]); omega)
    try have hj4_0_2 := fun o => hf4 (w.heap.size + 1 + 1) o (by (try simp only [World.size_alloc, World.size_setCell]); omega)
    try have hy4_0_2 : w.heap.size + 1 + 1 < w4.heap.size := by omega
    try have hk4_1_0 := fun o => hc4 (w1.heap.size) o (by (try simp only [World.size_alloc, World.size_setCell]); omega)
    try have hj4_1_0 := fun o => hf4 (w1.heap.size) o (by (try simp only [World.size_alloc, World.size_setCell]); omega)
    try have hy4_1_0 : w1.heap.size < w4.heap.size := by omega
    try have hk4_1_1 := fun o => hc4 (w1.heap.size + 1) o (by (try simp only [World.size_alloc, World.size_setCell]); omega)
    try have hj4_1_1 := fun o => hf4 (w1.heap.size + 1) o (by (try simp only [World.size_alloc, World.size_setCell]); omega)
    try have hy4_1_1 : w1.heap.size + 1 < w4.heap.size := by omega
    try have hk4_2_0 := fun o => hc4 (w2.heap.size) o (by (try simp only [World.size_alloc, World.size_setCell]); omega)
    try have hj4_2_0 := fun o => hf4 (w2.heap.size) o (by (try simp only [World.size_alloc, World.size_setCell]); omega)
    try have hy4_2_0 : w2.heap.size < w4.heap.size := by omega
    try have hk4_2_1 := fun o => hc4 (w2.heap.size + 1) o (by (try simp only [World.size_alloc, World.size_setCell]); omega)
    try have hj4_2_1 := fun o => hf4 (w2.heap.size + 1) o (by (try simp only [World.size_alloc, World.size_setCell]); omega)
    try have hy4_2_1 : w2.heap.size + 1 < w4.heap.size := by omega
    try have hk4_3_0 := fun o => hc4 (w3.heap.size) o (by (try simp only [World.size_alloc, World.size_setCell]); omega)
    try have hj4_3_0 := fun o => hf4 (w3.heap.size) o (by (try simp only [World.size_alloc, World.size_setCell]); omega)
    try have hy4_3_0 : w3.heap.size < w4.heap.size := by omega
    try have hk4_3_1 := fun o => hc4 (w3.heap.size + 1) o (by (try simp only [World.size_alloc, World.size_setCell]); omega)
    try have hj4_3_1 := fun o => hf4 (w3.heap.size + 1) o (by (try simp only [World.size_alloc, World.size_setCell]); omega)
    try have hy4_3_1 : w3.heap.size + 1 < w4.heap.size := by omega
    clear hc4 hf4
    go_wp2_with (fail)
    refine (eqBound_same _ _ _).mono ?_
    rintro e w5 ⟨rfl, hb5⟩
    go_wp2_with (fail)
    refine (toBoundS_any _ n0 z0 _ (r0.ext (by repeat (first | exact Ext.refl _ | assumption | refine Ext.alloc ?_ _ | refine Ext.drew ?_ | refine Ext.drewN ?_ _ | refine Ext.setCell ?_ (by first | exact Nat.le_refl _ | (simp; done) | (dsimp only; omega) | (simp only [World.size_alloc, World.size_setCell]; omega)) _ | refine Ext.trans ?_ (by assumption)))) hn).mono ?_
    rintro e w6 ⟨g6, rfl, hr6, hb6⟩
    have hz6 := Ext.size hb6
    try simp only [World.size_alloc, World.size_setCell] at hz6
    obtain ⟨hc6, hf6⟩ := Ext.cells hb6
    try have hk6_0_0 := fun o => hc6 (w.heap.size) o (by (try simp only [World.size_alloc, World.size_setCell]); omega)
    try have hj6_0_0 := fun o => hf6 (w.heap.size) o (by (try simp only [World.size_alloc, World.size_setCell]); omega)
    try have hy6_0_0 : w.heap.size < w6.heap.size := by omega
    try have hk6_0_1 := fun o => hc6 (w.heap.size + 1) o (by (try simp only [World.size_alloc, World.size_setCell]); omega)
    try have hj6_0_1 := fun o => hf6 (w.heap.size + 1) o (by (try simp only [World.size_alloc, World.size_setCell]); omega)
    try have hy6_0_1 : w.heap.size + 1 < w6.heap.size := by omega
    try have hk6_0_2 := fun o => hc6 (w.heap.size + 1 + 1) o (by (try simp only [World.size_alloc, World.size_setCell]); omega)
    try have hj6_0_2 := fun o => hf6 (w.heap.size + 1 + 1) o (by (try simp only [World.size_alloc, World.size_setCell]); omega)
    try have hy6_0_2 : w.heap.size + 1 + 1 < w6.heap.size := by omega
    try have hk6_1_0 := fun o => hc6 (w1.heap.size) o (by (try simp only [World.size_alloc, World.size_setCell]); omega)
    try have hj6_1_0 := fun o => hf6 (w1.heap.size) o (by (try simp only [World.size_alloc, World.size_setCell]); omega)
    try have hy6_1_0 : w1.heap.size < w6.heap.size := by omega
    try have hk6_1_1 := fun o => hc6 (w1.heap.size + 1) o (by (try simp only [World.size_alloc, World.size_setCell]); omega)
    try have hj6_1_1 := fun o => hf6 (w1.heap.size + 1) o (by (try simp only [World.size_alloc, World.size_setCell]); omega)
    try have hy6_1_1 : w1.heap.size + 1 < w6.heap.size := by omega
    try have hk6_2_0 := fun o => hc6 (w2.heap.size) o (by (try simp only [World.size_alloc, World.size_setCell]); omega)
    try have hj6_2_0 := fun o => hf6 (w2.heap.size) o (by (try simp only [World.size_alloc, World.size_setCell]); omega)
    try have hy6_2_0 : w2.heap.size < w6.heap.size := by omega
    try have hk6_2_1 := fun o => hc6 (w2.heap.size + 1) o (by (try simp only [World.size_alloc, World.size_setCell]); omega)
    try have hj6_2_1 := fun o => hf6 (w2.heap.size + 1) o (by (try simp only [World.size_alloc, World.size_setCell]); omega)
    try have hy6_2_1 : w2.heap.size + 1 < w6.heap.size := by omega
    try have hk6_3_0 := fun o => hc6 (w3.heap.size) o (by (try simp only [World.size_alloc, World.size_setCell]); omega)
    try have hj6_3_0 := fun o => hf6 (w3.heap.size) o (by (try simp only [World.size_alloc, World.size_setCell]); omega)
    try have hy6_3_0 : w3.heap.size < w6.heap.size := by omega
    try have hk6_3_1 := fun o => hc6 (w3.heap.size + 1) o (by (try simp only [World.size_alloc, World.size_setCell]); omega)
    try have hj6_3_1 := fun o => hf6 (w3.heap.size + 1) o (by (try simp only [World.size_alloc, World.size_setCell]); omega)
    try have hy6_3_1 : w3.heap.size + 1 < w6.heap.size := by omega
    try have hk6_4_0 := fun o => hc6 (w4.heap.size) o (by (try simp only [World.size_alloc, World.size_setCell]); omega)
    try have hj6_4_0 := fun o => hf6 (w4.heap.size) o (by (try simp only [World.size_alloc, World.size_setCell]); omega)
    try have hy6_4_0 : w4.heap.size < w6.heap.size := by omega
    try have hk6_4_1 := fun o => hc6 (w4.heap.size + 1) o (by (try simp only [World.size_alloc, World.size_setCell]); omega)
    try have hj6_4_1 := fun o => hf6 (w4.heap.size + 1) o (by (try simp only [World.size_alloc, World.size_setCell]); omega)
    try have hy6_4_1 : w4.heap.size + 1 < w6.heap.size := by omega
    try have hk6_5_0 := fun o => hc6 (w5.heap.size) o (by (try simp only [World.size_alloc, World.size_setCell]); omega)
    try have hj6_5_0 := fun o => hf6 (w5.heap.size) o (by (try simp only [World.size_alloc, World.size_setCell]); omega)
    try have hy6_5_0 : w5.heap.size < w6.heap.size := by omega
    try have hk6_5_1 := fun o => hc6 (w5.heap.size + 1) o (by (try simp only [World.size_alloc, World.size_setCell]); omega)
    try have hj6_5_1 := fun o => hf6 (w5.heap.size + 1) o (by (try simp only [World.size_alloc, World.size_setCell]); omega)
    try have hy6_5_1 : w5.heap.size + 1 < w6.heap.size := by omega
    clear hc6 hf6
    go_wp2_with (fail)
    refine (eqBoundS_same _ _ n0 z0 _ (row_ints (row_ext hr3 (by repeat (first | exact Ext.refl _ | assumption | refine Ext.alloc ?_ _ | refine Ext.drew ?_ | refine Ext.drewN ?_ _ | refine Ext.setCell ?_ (by first | exact Nat.le_refl _ | (simp; done) | (dsimp only; omega) | (simp only [World.size_alloc, World.size_setCell]; omega)) _ | refine Ext.trans ?_ (by assumption)))) (by unfold maxLen; omega) hwf) (row_ints (row_ext hr6 (by repeat (first | exact Ext.refl _ | assumption | refine Ext.alloc ?_ _ | refine Ext.drew ?_ | refine Ext.drewN ?_ _ | refine Ext.setCell ?_ (by first | exact Nat.le_refl _ | (simp; done) | (dsimp only; omega) | (simp only [World.size_alloc, World.size_setCell]; omega)) _ | refine Ext.trans ?_ (by assumption)))) (by unfold maxLen; omega) hwf)).mono ?_
    rintro e w7 ⟨rfl, hb7⟩
    go_wp2_with (fail)
    go_ret
    exact ⟨rfl, (by repeat (first | exact Ext.refl _ | assumption | refine Ext.alloc ?_ _ | refine Ext.drew ?_ | refine Ext.drewN ?_ _ | refine Ext.setCell ?_ (by first | exact Nat.le_refl _ | (simp; done) | (dsimp only; omega) | (simp only [World.size_alloc, World.size_setCell]; omega)) _ | refine Ext.trans ?_ (by assumption)))⟩
  · rw [if_neg (by omega)] at hsz
    go_enter Try.func13, Try.ntmps13
    go_wp2_with (fail)
    refine hsz.mono ?_
    rintro e w' ⟨rfl, rfl⟩
    go_wp2_with (fail)
    go_ret
    exact ⟨rfl, Ext.refl _⟩
end Go.Proofs.Ytiemkobgpaekoaa
