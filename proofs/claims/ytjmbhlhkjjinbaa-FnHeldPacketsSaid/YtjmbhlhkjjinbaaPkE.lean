/- Packets owned and split by the reference. No condition. -/
import Derived.Test.YtjmbhlhkjjinbaaPkD
namespace Go.Proofs.Ytjmbhlhkjjinbaa
open Go.RowKit
set_option linter.unusedSimpArgs false
set_option linter.unusedVariables false

theorem SigO.setC {w : World} {base b j : Nat} {u x : Value} {s : List Int} (h : SigO w base u s) (hb : b < base) : SigO (w.setCell ⟨b, j, none⟩ x) base u s :=
  h.far (grow_cell w ⟨b, j, none⟩ x) (fun k hk => by simp at hk; omega)

/-- cells of packets, whose signals are slices of the call's own -/
def PkC (L : Nat) (w : World) (base n : Nat) (ys : List Value) : Prop :=
  ys.length = n * 4 ∧ ∀ j, j < n → ∃ (x0 x1 x2 : Int) (u : Value) (s : List Int), ys[j * 4]? = some (.int .i64 x0) ∧ ys[j * 4 + 1]? = some (.int .i64 x1) ∧ ys[j * 4 + 2]? = some (.int .i64 x2) ∧ ys[j * 4 + 3]? = some u ∧ (Lit.int .i64 x0).wf = true ∧ (Lit.int .i64 x1).wf = true ∧ (Lit.int .i64 x2).wf = true ∧ SigO w base u s ∧ s.length ≤ L
theorem PkC.nil (L : Nat) (w : World) (base : Nat) : PkC L w base 0 [] := ⟨rfl, fun j hj => by omega⟩
theorem PkC.imp {L : Nat} {w w' : World} {base base' n : Nat} {ys : List Value} (h : PkC L w base n ys) (g : ∀ u s, SigO w base u s → SigO w' base' u s) : PkC L w' base' n ys :=
  ⟨h.1, fun j hj => by obtain ⟨x0, x1, x2, u, s, a0, a1, a2, a3, b0, b1, b2, c, d⟩ := h.2 j hj; exact ⟨x0, x1, x2, u, s, a0, a1, a2, a3, b0, b1, b2, g u s c, d⟩⟩
theorem PkC.far {L : Nat} {w w' : World} {base n : Nat} {ys : List Value} (h : PkC L w base n ys) {r : Option Nat} (g : w.grownBy w' r) (hr : ∀ k, r = some k → k < base) : PkC L w' base n ys := h.imp fun _ _ c => c.far g hr
theorem PkC.ext {L : Nat} {w w' : World} {base n : Nat} {ys : List Value} (h : PkC L w base n ys) (e : Ext w w') : PkC L w' base n ys := h.imp fun _ _ c => c.ext e
theorem PkC.mono {L : Nat} {w : World} {base b2 n : Nat} {ys : List Value} (h : PkC L w base n ys) (hb : b2 ≤ base) : PkC L w b2 n ys := h.imp fun _ _ c => c.mono hb
theorem SigO.spine {w w' : World} {base base' m : Nat} {u v : Value} {s : List Int} {xs : List Value} (h : SigO w base u s) (hs : w.ownsRow base' 38 4 v m xs) (g : w.grownBy w' v.ownBlock) : SigO w' base u s :=
  ⟨h.1.kept g (by
    cases hb : u.ownBlock with
    | none => exact .inl rfl
    | some k => exact .inr (fun hk => own_ne2 h.1 hs (by decide) hb hk.symm)), h.2⟩
theorem PkC.spine {L : Nat} {w w' : World} {base base' n m : Nat} {v : Value} {ys xs : List Value} (h : PkC L w base n ys) (hs : w.ownsRow base' 38 4 v m xs) (g : w.grownBy w' v.ownBlock) : PkC L w' base n ys := h.imp fun _ _ c => c.spine hs g
theorem PkC.weak {L L' : Nat} {w : World} {base n : Nat} {ys : List Value} (h : PkC L w base n ys) (hL : L ≤ L') : PkC L' w base n ys :=
  ⟨h.1, fun j hj => by obtain ⟨x0, x1, x2, u, s, a0, a1, a2, a3, b0, b1, b2, c, d⟩ := h.2 j hj; exact ⟨x0, x1, x2, u, s, a0, a1, a2, a3, b0, b1, b2, c, Nat.le_trans d hL⟩⟩
theorem PkC.app {L : Nat} {w : World} {base n m : Nat} {xs ys : List Value} (h : PkC L w base n xs) (k : PkC L w base m ys) : PkC L w base (n + m) (xs ++ ys) := by
  refine ⟨by rw [List.length_append, h.1, k.1]; omega, fun j hj => ?_⟩
  by_cases c : j < n
  · obtain ⟨x0, x1, x2, u, s, a0, a1, a2, a3, r⟩ := h.2 j c
    have hl := h.1
    exact ⟨x0, x1, x2, u, s, by rw [List.getElem?_append_left (by omega)]; exact a0, by rw [List.getElem?_append_left (by omega)]; exact a1, by rw [List.getElem?_append_left (by omega)]; exact a2, by rw [List.getElem?_append_left (by omega)]; exact a3, r⟩
  · obtain ⟨x0, x1, x2, u, s, a0, a1, a2, a3, r⟩ := k.2 (j - n) (by omega)
    have hl := h.1
    refine ⟨x0, x1, x2, u, s, ?_, ?_, ?_, ?_, r⟩
    · rw [List.getElem?_append_right (by omega), ← a0]; congr 1; omega
    · rw [List.getElem?_append_right (by omega), ← a1]; congr 1; omega
    · rw [List.getElem?_append_right (by omega), ← a2]; congr 1; omega
    · rw [List.getElem?_append_right (by omega), ← a3]; congr 1; omega
theorem PkC.take {L : Nat} {w : World} {base n : Nat} {xs : List Value} (h : PkC L w base n xs) (k : Nat) (hk : k ≤ n) : PkC L w base k (xs.take (k * 4)) := by
  refine ⟨by rw [List.length_take, h.1]; omega, fun j hj => ?_⟩
  obtain ⟨x0, x1, x2, u, s, a0, a1, a2, a3, r⟩ := h.2 j (by omega)
  exact ⟨x0, x1, x2, u, s, by rw [List.getElem?_take_of_lt (by omega)]; exact a0, by rw [List.getElem?_take_of_lt (by omega)]; exact a1, by rw [List.getElem?_take_of_lt (by omega)]; exact a2, by rw [List.getElem?_take_of_lt (by omega)]; exact a3, r⟩
theorem PkC.drop {L : Nat} {w : World} {base n : Nat} {xs : List Value} (h : PkC L w base n xs) (k : Nat) (hk : k ≤ n) : PkC L w base (n - k) (xs.drop (k * 4)) := by
  refine ⟨by rw [List.length_drop, h.1]; omega, fun j hj => ?_⟩
  obtain ⟨x0, x1, x2, u, s, a0, a1, a2, a3, r⟩ := h.2 (k + j) (by omega)
  refine ⟨x0, x1, x2, u, s, ?_, ?_, ?_, ?_, r⟩
  · rw [List.getElem?_drop, ← a0]; congr 1; omega
  · rw [List.getElem?_drop, ← a1]; congr 1; omega
  · rw [List.getElem?_drop, ← a2]; congr 1; omega
  · rw [List.getElem?_drop, ← a3]; congr 1; omega
theorem PkC.one {L : Nat} {w : World} {base : Nat} {x0 x1 x2 : Int} {u : Value} {s : List Int} (h0 : (Lit.int .i64 x0).wf = true) (h1 : (Lit.int .i64 x1).wf = true) (h2 : (Lit.int .i64 x2).wf = true) (h : SigO w base u s) (hL : s.length ≤ L) : PkC L w base 1 [.int .i64 x0, .int .i64 x1, .int .i64 x2, u] :=
  ⟨rfl, fun j hj => by obtain rfl : j = 0 := by omega
                       exact ⟨x0, x1, x2, u, s, rfl, rfl, rfl, rfl, h0, h1, h2, h, hL⟩⟩
theorem PkC.cells {L : Nat} {w : World} {base n : Nat} {ys : List Value} (h : PkC L w base n ys) : ∀ u ∈ ys, u.oneCell' = true := by
  intro y hy
  obtain ⟨m, hm, rfl⟩ := List.getElem_of_mem hy
  have hl := h.1
  obtain ⟨x0, x1, x2, u, s, a0, a1, a2, a3, _, _, _, c, _⟩ := h.2 (m / 4) (by omega)
  have hg : ys[m]? = some ys[m] := List.getElem?_eq_getElem hm
  have h4 : m % 4 = 0 ∨ m % 4 = 1 ∨ m % 4 = 2 ∨ m % 4 = 3 := by omega
  rcases h4 with h4 | h4 | h4 | h4
  · rw [show m / 4 * 4 = m by omega, hg] at a0; simp only [Option.some.injEq] at a0; rw [a0]; rfl
  · rw [show m / 4 * 4 + 1 = m by omega, hg] at a1; simp only [Option.some.injEq] at a1; rw [a1]; rfl
  · rw [show m / 4 * 4 + 2 = m by omega, hg] at a2; simp only [Option.some.injEq] at a2; rw [a2]; rfl
  · rw [show m / 4 * 4 + 3 = m by omega, hg] at a3; simp only [Option.some.injEq] at a3; rw [a3]
    obtain ⟨a, cc, rfl, _⟩ := introw_slice c.ints
    rfl
/-- a row of packets of the call's own -/
def PkO (L : Nat) (w : World) (base : Nat) (v : Value) (m : Nat) (xs : List Value) : Prop := w.ownsRow base 38 4 v m xs ∧ PkC L w base m xs
theorem PkO.nil (L : Nat) (w : World) (base : Nat) : PkO L w base (.slice none 0 0) 0 [] := ⟨World.ownsRow_nil _ _ _ _, PkC.nil _ _ _⟩
theorem PkO.far {L : Nat} {w w' : World} {base m : Nat} {v : Value} {xs : List Value} (h : PkO L w base v m xs) {r : Option Nat} (g : w.grownBy w' r) (hr : ∀ k, r = some k → k < base) : PkO L w' base v m xs :=
  ⟨h.1.kept g (by
    cases hb : v.ownBlock with
    | none => exact .inl rfl
    | some k => exact .inr (fun hk => by have h1 := (h.1.lt k hb).1; have h2 := hr k hk.symm; omega)), h.2.far g hr⟩
theorem PkO.ext {L : Nat} {w w' : World} {base m : Nat} {v : Value} {xs : List Value} (h : PkO L w base v m xs) (e : Ext w w') : PkO L w' base v m xs := h.far e.grown (fun k hk => by cases hk)
theorem PkO.mono {L : Nat} {w : World} {base b2 m : Nat} {v : Value} {xs : List Value} (h : PkO L w base v m xs) (hb : b2 ≤ base) : PkO L w b2 v m xs := ⟨row_mono h.1 hb, h.2.mono hb⟩
/-- the spine has grown by packets: what step_srcK yields -/
theorem PkO.grow {L : Nat} {w w' : World} {base n m : Nat} {v v' : Value} {xs ys : List Value} (h : PkO L w base v n xs) (k : PkC L w base m ys) (hr : w'.ownsRow base 38 4 v' (n + m) (xs ++ ys)) (g : w.grownBy w' v.ownBlock) : PkO L w' base v' (n + m) (xs ++ ys) :=
  ⟨hr, (h.2.app k).spine h.1 g⟩

set_option maxRecDepth 100000 in
set_option maxHeartbeats 1000000 in
theorem pkOwn_any (x0 x1 x2 : Int) (u : Value) (m : Nat) (s : List Int) (w : World) (h : IntRow .i64 1 w u m s) (hm : m ≤ 1000) :
    Calls Try.prog 51 #[.agg #[.int .i64 x0, .int .i64 x1, .int .i64 x2, u]] w fun e w' => ∃ v', e = .returned (.agg #[.int .i64 x0, .int .i64 x1, .int .i64 x2, v']) ∧ SigO w' w.heap.size v' s ∧ Ext w w' := by
  have h0 := h
  obtain ⟨a, c, rfl⟩ := introw_slice h
  clear h
  go_enter Try.func51, Try.ntmps51
  go_wp2_with (fail)
  refine (l1Own_any _ m s _ (h0.ext (by repeat (first | exact Ext.refl _ | assumption | refine Ext.alloc ?_ _ | refine Ext.drew ?_ | refine Ext.drewN ?_ _ | refine Ext.setCell ?_ (by first | exact Nat.le_refl _ | (simp; done) | (dsimp only; omega) | (simp only [World.size_alloc, World.size_setCell]; omega)) _ | refine Ext.trans ?_ (by assumption)))) hm).mono ?_
  rintro e w1 ⟨v1, rfl, hs1, hb1⟩
  have hz1 := Ext.size hb1
  try simp only [World.size_alloc, World.size_setCell] at hz1
  obtain ⟨hc1, hf1⟩ := Ext.cells hb1
  try have hk1_0_0 := fun o => hc1 (w.heap.size) o (by (try simp only [World.size_alloc, World.size_setCell]); omega)
  try have hj1_0_0 := fun o => hf1 (w.heap.size) o (by (try simp only [World.size_alloc, World.size_setCell]); omega)
  try have hy1_0_0 : w.heap.size < w1.heap.size := by omega
  try have hk1_0_1 := fun o => hc1 (w.heap.size + 1) o (by (try simp only [World.size_alloc, World.size_setCell]); omega)
  try have hj1_0_1 := fun o => hf1 (w.heap.size + 1) o (by (try simp only [World.size_alloc, World.size_setCell]); omega)
  try have hy1_0_1 : w.heap.size + 1 < w1.heap.size := by omega
  try have hk1_0_2 := fun o => hc1 (w.heap.size + 1 + 1) o (by (try simp only [World.size_alloc, World.size_setCell]); omega)
  try have hj1_0_2 := fun o => hf1 (w.heap.size + 1 + 1) o (by (try simp only [World.size_alloc, World.size_setCell]); omega)
  try have hy1_0_2 : w.heap.size + 1 + 1 < w1.heap.size := by omega
  clear hc1 hf1
  obtain ⟨a1, c1, e1⟩ := introw_slice hs1.ints
  have e2 : s.length = m := by simpa using h0.1
  rw [e2] at e1
  subst e1
  clear e2
  have HS := hid hs1
  clear hs1
  go_wp2_with (fail)
  have hs := HS.out
  simp only [World.size_alloc] at hs
  clear HS h0
  have hs5 := ((((hs.setC (b := w.heap.size) (j := 3) (x := .slice a1 m c1) (by omega)).setC (b := w.heap.size + 1) (j := 0) (x := .int .i64 x0) (by omega)).setC (b := w.heap.size + 1) (j := 1) (x := .int .i64 x1) (by omega)).setC (b := w.heap.size + 1) (j := 2) (x := .int .i64 x2) (by omega)).setC (b := w.heap.size + 1) (j := 3) (x := .slice a1 m c1) (by omega)
  refine bodyPost_ret (v := .agg #[.int .i64 x0, .int .i64 x1, .int .i64 x2, .slice a1 m c1]) (by simp [results, Try.results51, go_sem, *]) rfl ⟨_, rfl, hs5.mono (by omega), ?_⟩
  exact (by repeat (first | (with_reducible exact Ext.refl _) | (with_reducible assumption) | (with_reducible refine Ext.alloc ?_ _) | (with_reducible refine Ext.drew ?_) | (with_reducible refine Ext.drewN ?_ _) | ((with_reducible refine Ext.setCell ?_ ?_ _); rotate_left; (first | exact Nat.le_refl _ | (simp; done) | (dsimp only; omega) | (simp only [World.size_alloc, World.size_setCell]; omega))) | (with_reducible refine Ext.trans ?_ (by assumption))))

theorem take1 {w : World} {a : Option Addr} {n c k : Nat} {z : List Int} (h : IntRow .i64 1 w (.slice a n c) n z) (hk : k ≤ n) : IntRow .i64 1 w (.slice a k c) k (z.take k) := by
  obtain ⟨h1, h2, h3, a', c', h4, h5, h6, h7⟩ := h
  injection h4 with e1 e2 e3
  subst e1
  subst e3
  refine ⟨by rw [List.length_take]; omega, by omega, fun x hx => h3 x (List.mem_of_mem_take hx), a, c, rfl, by omega, h6, ?_⟩
  by_cases h0 : k = 0
  · exact .inl h0
  · obtain ⟨b, o, ha, hb, hc⟩ := h7.resolve_left (by omega)
    exact .inr ⟨b, o, ha, hb, fun j hj => by rw [hc j (by omega), List.getD_eq_getElem?_getD, List.getD_eq_getElem?_getD, List.getElem?_take, if_pos (by omega)]⟩
theorem drop1 {w : World} {b o n c k : Nat} {z : List Int} (h : IntRow .i64 1 w (.slice (some ⟨b, o, none⟩) n c) n z) (hk : k ≤ n) : IntRow .i64 1 w (.slice (some ⟨b, o + k, none⟩) (n - k) (c - k)) (n - k) (z.drop k) := by
  obtain ⟨h1, h2, h3, a', c', h4, h5, h6, h7⟩ := h
  injection h4 with e1 e2 e3
  subst e1
  subst e3
  refine ⟨by rw [List.length_drop]; omega, by omega, fun x hx => h3 x (List.mem_of_mem_drop hx), _, c - k, rfl, by omega, by omega, ?_⟩
  by_cases h0 : n - k = 0
  · exact .inl h0
  · obtain ⟨b', o', ha, hb, hc⟩ := h7.resolve_left (by omega)
    injection ha with ha
    injection ha with e2 e3
    subst e2
    subst e3
    refine .inr ⟨b, o + k, rfl, hb, fun j hj => ?_⟩
    rw [show o + k + j = o + (k + j) by omega, hc _ (by omega), List.getD_eq_getElem?_getD, List.getD_eq_getElem?_getD, List.getElem?_drop]
theorem lit_pk (w : World) (t : TypeId) (x0 x1 x2 : Int) (u : Value) : RowR (w.alloc (.cells #[.int .i64 x0, .int .i64 x1, .int .i64 x2, u] t)) 4 (.slice (some ⟨w.heap.size, 0, none⟩) 1 1) 1 [.int .i64 x0, .int .i64 x1, .int .i64 x2, u] := by
  refine ⟨rfl, _, 1, rfl, Nat.le_refl _, by unfold maxLen; omega, .inr ⟨w.heap.size, 0, rfl, by simp, fun j y hy => ?_⟩⟩
  match j, hy with
  | 0, hy => simp at hy; subst hy; simp
  | 1, hy => simp at hy; subst hy; simp
  | 2, hy => simp at hy; subst hy; simp
  | 3, hy => simp at hy; subst hy; simp
  | j + 4, hy => simp at hy
def mnP (a b : Int) : Int := if a < b then a else b
set_option maxRecDepth 100000 in
set_option maxHeartbeats 400000 in
theorem l1LeastP_any (a b : Int) (w : World) : Calls Try.prog 68 #[.int .i64 a, .int .i64 b] w fun e w' => e = .returned (.int .i64 (mnP a b)) ∧ w = w' := by
  unfold mnP
  by_cases h : a < b
  · rw [if_pos h]
    go_enter Try.func68, Try.ntmps68
    go_wp2
    go_ret
    exact ⟨rfl, rfl⟩
  · rw [if_neg h]
    go_enter Try.func68, Try.ntmps68
    go_wp2
    go_ret
    exact ⟨rfl, rfl⟩
theorem mn_natP (a b : Nat) : mnP (a : Int) (b : Int) = ((min a b : Nat) : Int) := by unfold mnP; split <;> omega

set_option maxRecDepth 100000 in
set_option maxHeartbeats 4000000 in
theorem pkSplit_any (x : Int) (v : Value) (m d : Nat) (s : List Int) (w : World) (hx : (Lit.int .i64 x).wf = true) (h : IntRow .i64 1 w v m s) (hm : m ≤ 12) (hd1 : 1 ≤ d) (hd2 : d ≤ 12) :
    Calls Try.prog 49 #[.int .i64 x, v, .int .i64 (d : Int)] w fun e w' => ∃ v' n ys, e = .returned v' ∧ PkO 12 w' w.heap.size v' n ys ∧ n ≤ m ∧ Ext w w' := by
  obtain ⟨i0, hi, hz0, hz1, hz2⟩ := info_parts info_PacketK
  have h0 := h
  obtain ⟨a, c, rfl⟩ := introw_slice h
  clear h
  obtain ⟨p, hp⟩ : ∃ p, p = (m + d - 1) / d := ⟨_, rfl⟩
  have hp2 : p ≤ m ∧ ∀ k, k < p → k * d < m := by
    subst hp
    refine ⟨?_, fun k hk => ?_⟩
    · rw [Nat.div_le_iff_le_mul_add_pred (by omega)]
      have : m ≤ d * m := Nat.le_mul_of_pos_left _ (by omega)
      omega
    · have := Nat.div_mul_le_self (m + d - 1) d
      have h2 : (k + 1) * d ≤ (m + d - 1) / d * d := Nat.mul_le_mul_right _ hk
      rw [Nat.add_mul] at h2
      omega
  have t0 : (((m : Int) + (d : Int) - 1).tdiv (d : Int)) = (p : Int) := by
    rw [hp, show (m : Int) + (d : Int) - 1 = ((m + d - 1 : Nat) : Int) by omega, Int.tdiv_eq_ediv_of_nonneg (by omega)]
    rfl
  have HP := hid hp
  clear hp
  go_enter Try.func49, Try.ntmps49
  go_wp2_with (fail)
  go_loopw [8, 9, 10] (fun s8 s9 _ wr => ∃ (k : Nat) (ys : List Value), s9 = .int .i64 (k : Int) ∧ k ≤ p ∧ PkO 12 wr w.heap.size s8 k ys ∧ Ext w wr)
    (fun _ s9 _ _ => p - (intOf s9).toNat)
  case atStart => exact ⟨0, [], rfl, by omega, PkO.nil _ _ _, (by repeat (first | exact Ext.refl _ | assumption | refine Ext.alloc ?_ _ | refine Ext.drew ?_ | refine Ext.drewN ?_ _ | refine Ext.setCell ?_ (by first | exact Nat.le_refl _ | (simp; done) | (dsimp only; omega) | (simp only [World.size_alloc, World.size_setCell]; omega)) _ | refine Ext.trans ?_ (by assumption)))⟩
  case round =>
    obtain ⟨k, ys, rfl, hk, hO, hE⟩ := hrel
    obtain ⟨a3, c3, rfl, _, _, _⟩ := row_shape hO.1
    have HO := hid hO
    clear hO
    by_cases hlt : k < p
    · have t1 : decide ((k : Int) < (p : Int)) = true := by simpa using hlt
      have t2 : decide (k < p) = true := by simpa using hlt
      have hkd := hp2.2 k hlt
      obtain ⟨lo, hlo⟩ : ∃ q, q = k * d := ⟨_, rfl⟩
      have t4 : (k : Int) * (d : Int) = (lo : Int) := by rw [hlo]; simp
      rw [← hlo] at hkd
      have HLO := hid hlo
      clear hlo
      obtain ⟨e, he⟩ : ∃ q, q = lo + d := ⟨_, rfl⟩
      have t3 : ((k : Int) + 1) * (d : Int) = (e : Int) := by rw [Int.add_mul, t4, he]; simp
      obtain ⟨e2, he2⟩ : ∃ q, q = min m e := ⟨_, rfl⟩
      have he3 : lo ≤ e2 ∧ e2 ≤ m ∧ e2 ≤ 12 ∧ lo ≤ 12 ∧ e ≤ 24 := by omega
      have hM : mnP (m : Int) (e : Int) = (e2 : Int) := by rw [mn_natP, he2]
      have he4 : e ≤ 24 := he3.2.2.2.2
      have he5 : lo ≤ 12 := he3.2.2.2.1
      clear he he2
      go_wp2_with (fail)
      refine (l1LeastP_any _ _ _).mono ?_
      rintro e w1 ⟨rfl, rfl⟩
      rw [hM]
      have h0r := h0.ext hE
      obtain ⟨b0, o0, rfl, hb0⟩ : ∃ b o, a = some ⟨b, o, none⟩ ∧ b < wr.heap.size := by
        obtain ⟨_, _, _, a', c', q1, _, _, q2⟩ := h0r
        injection q1 with e1 _ _
        rcases q2 with q2 | ⟨b, o, q3, q4, _⟩
        · omega
        · exact ⟨b, o, by rw [e1, q3], q4⟩
      have HS := hid (drop1 (take1 h0r he3.2.1) (k := lo) he3.1)
      obtain ⟨hmc, hcm⟩ : m ≤ c ∧ c ≤ maxLen := by
        obtain ⟨_, _, _, a', c', q1, q2, q3, _⟩ := h0r
        injection q1 with _ _ e1
        exact ⟨by omega, by omega⟩
      have H0 := hid h0
      have he6 := he3.1
      have he7 := he3.2.1
      have he8 : e2 ≤ c := by omega
      clear h0 h0r
      go_wp2_with (fail)
      refine (l1Own_any _ (e2 - lo) _ _ HS.out (by omega)).mono ?_
      rintro ee w1 ⟨v1, rfl, hs1, hb1⟩
      have hE1 := hE.trans hb1
      have HO1 := hid (HO.out.ext hb1)
      have hK1 : PkC 12 w1 w.heap.size 1 [.int .i64 x, .int .i64 (k : Int), .int .i64 (p : Int), v1] := PkC.one hx (wf_i64 (by omega)) (wf_i64 (by omega)) (hs1.mono hE.size) (by rw [List.length_drop, List.length_take]; omega)
      have HK1 := hid hK1
      obtain ⟨a1, c1, e1⟩ := introw_slice hs1.ints
      generalize ((s.take e2).drop lo).length = q1 at e1
      subst e1
      have hb2 := hE1.size
      clear hs1 hK1 HO HS hb1 hE
      go_wp2_with (at_builtin; go_loud (refine wpList_srcK rfl (.tmp 30) (.tmp 42) 29 rfl w.heap.size 38 i0 _ 4 48 Try.underlying29 hi hz0 hz1 hz2 rfl (by omega) (by omega) (by omega) _ k ys rfl (row_ext HO1.out.1 ((Ext.refl _).alloc _)) _ 1 _ rfl (lit_pk _ _ _ _ _ _) HK1.out.cells (by omega) (by simp only [World.size_alloc]; omega) ?_; intro v2 wz hr1 hgz; have hOz := hid (PkO.grow (HO1.out.ext ((Ext.refl _).alloc _)) (HK1.out.ext ((Ext.refl _).alloc _)) hr1 hgz); have hEz : Ext w wz := Ext.of_grownAt (hE1.alloc _) hgz (fun k hk => (HO1.out.1.lt k hk).1); obtain ⟨a2, c2, rfl, _, _, _⟩ := row_shape hr1; clear hr1 hgz))
      go_roundw
      case rel =>
        exact ⟨k + 1, _, by go_num, by omega, hOz.out, hEz⟩
      case measure => simp [intOf]; omega
    · obtain rfl : k = p := by omega
      have t1 : decide ((k : Int) < (k : Int)) = false := by simp
      have t2 : decide (k < k) = false := by simp
      have hk9 := hp2.1
      clear hk hlt
      go_wp2_with (fail)
      go_ret
      exact ⟨_, k, ys, rfl, HO.out, hk9, hE⟩
end Go.Proofs.Ytjmbhlhkjjinbaa