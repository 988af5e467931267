/- The chapter of shifts: operators are assigned. No condition. -/
import Derived.Test.YtijeieacoaopcaaShfD
import Derived.Test.YtijeieacoaopcaaPut
import Derived.Test.YtijeieacoaopcaaConvInt
import Derived.Deep.AppendLies
namespace Go.Proofs.Ytijeieacoaopcaa
open Go.RowKit
set_option linter.unusedSimpArgs false
set_option linter.unusedVariables false

theorem map_set_int (l : List Int) (j : Nat) (y : Int) : (l.map (Value.int .i64)).set j (.int .i64 y) = (l.set j y).map (Value.int .i64) := by
  rw [List.map_set]
/-- two values that own different blocks -/
def Dis (u v : Value) : Prop := ∀ j, u.ownBlock = some j → v.ownBlock ≠ some j
theorem Dis.symm {u v : Value} (d : Dis u v) : Dis v u := fun j h k => d j k h
theorem Dis.nil_ (v : Value) : Dis (.slice none 0 0) v := fun j h => by simp [Value.ownBlock] at h
theorem Dis.kept {w w' : World} {b s n : Nat} {e : TypeId} {u v : Value} {xs : List Value} (d : Dis u v) (h : w.ownsRow b e s u n xs) (g : w.grownBy w' v.ownBlock) : w'.ownsRow b e s u n xs :=
  h.kept g (by
    cases hb : u.ownBlock with
    | none => exact .inl rfl
    | some k => exact .inr (fun hk => d k hb hk.symm))
theorem Dis.new {w : World} {b s n g m c : Nat} {e : TypeId} {u v : Value} {xs : List Value} (d : Dis u v) (h : w.ownsRow b e s u n xs) (hg : v.ownBlock = some g ∨ g = w.heap.size) : Dis u (.slice (some ⟨g, 0, none⟩) m c) := by
  intro j hj hk
  obtain rfl : g = j := by simpa [Value.ownBlock] using hk
  rcases hg with hg | hg
  · exact d g hj hg
  · have := (h.lt g hj).2
    omega
/-- the place of the first number of which P says yes; the length if there is none -/
def firstI (P : Int → Bool) : List Int → Nat
  | [] => 0
  | x :: l => if P x = true then 0 else firstI P l + 1
theorem firstI_le (P : Int → Bool) : ∀ l, firstI P l ≤ l.length
  | [] => by simp [firstI]
  | x :: l => by
    have := firstI_le P l
    rw [firstI]; split <;> simp <;> omega
theorem firstI_eq {P : Int → Bool} : ∀ {l : List Int} {k : Nat}, k ≤ l.length → (∀ j, j < k → P (l.getD j 0) = false) → (k < l.length → P (l.getD k 0) = true) → firstI P l = k
  | [], k, h, _, _ => by simp at h; simp [firstI, h]
  | x :: l, k, h, h1, h2 => by
    rw [firstI]
    cases k with
    | zero => rw [if_pos (by simpa using h2 (by simp))]
    | succ k =>
      rw [if_neg (by have := h1 0 (by omega); simpa using this), firstI_eq (l := l) (k := k) (by simpa using h) (fun j hj => by simpa using h1 (j + 1) (by omega)) (fun hk => by simpa using h2 (by simpa using hk))]
theorem firstI_at {P : Int → Bool} : ∀ {l : List Int}, firstI P l < l.length → P (l.getD (firstI P l) 0) = true ∧ ∀ j, j < firstI P l → P (l.getD j 0) = false
  | [], h => by simp at h
  | x :: l, h => by
    rw [firstI] at h ⊢
    by_cases c : P x = true
    · rw [if_pos c]
      exact ⟨by simpa using c, fun j hj => absurd hj (by omega)⟩
    · rw [if_neg c] at h ⊢
      have ih := firstI_at (P := P) (l := l) (by simpa using h)
      refine ⟨by simpa using ih.1, fun j hj => ?_⟩
      cases j with
      | zero => simpa using c
      | succ j => simpa using ih.2 j (by omega)
theorem firstI_none {P : Int → Bool} : ∀ {l : List Int}, firstI P l = l.length → ∀ j, j < l.length → P (l.getD j 0) = false
  | [], _, j, hj => by simp at hj
  | x :: l, h, j, hj => by
    rw [firstI] at h
    by_cases c : P x = true
    · rw [if_pos c] at h; simp at h
    · rw [if_neg c] at h
      cases j with
      | zero => simpa using c
      | succ j => simpa using firstI_none (P := P) (l := l) (by simpa using h) j (by simpa using hj)
theorem idx_first {P : Int → Bool} {l : List Int} {n : Nat} (hn : l.length = n) : idxOf (fun i => P (l.getD i 0)) n = if firstI P l < n then (firstI P l : Int) else -1 := by
  subst hn
  by_cases h : firstI P l < l.length
  · rw [if_pos h]
    obtain ⟨h1, h2⟩ := firstI_at h
    exact idxOf_some h h1 h2
  · rw [if_neg h]
    have := firstI_le P l
    exact idxOf_none (firstI_none (by omega))

/-- the ends of the operators' last shifts, and the operators, behind k shifts -/
def frP (r f : Int) : Int → Bool := fun e => decide (e + r ≤ f)
def asE (z : List Int) (r : Int) : Nat → List Int
  | 0 => []
  | k + 1 => if firstI (frP r (shFr z k)) (asE z r k) < (asE z r k).length then (asE z r k).set (firstI (frP r (shFr z k)) (asE z r k)) (shTo z k) else asE z r k ++ [shTo z k]
def asO (z : List Int) (r : Int) : Nat → List Int
  | 0 => []
  | k + 1 => asO z r k ++ [(firstI (frP r (shFr z k)) (asE z r k) : Int) + 1]
theorem asO_length (z : List Int) (r : Int) : ∀ k, (asO z r k).length = k
  | 0 => rfl
  | k + 1 => by rw [asO, List.length_append, asO_length z r k]; rfl
theorem asE_inv {z : List Int} {n : Nat} (ok : okSs z n = true) (r : Int) : ∀ k, k ≤ n → (asE z r k).length ≤ k ∧ ∀ x ∈ asE z r k, 0 ≤ x ∧ x ≤ 168
  | 0, _ => by simp [asE]
  | k + 1, hk => by
    obtain ⟨h1, h2⟩ := asE_inv ok r k (by omega)
    have hb := okSs_bd ok k (by omega)
    rw [asE]
    split
    · refine ⟨by rw [List.length_set]; omega, fun x hx => ?_⟩
      rcases List.mem_or_eq_of_mem_set hx with hx | rfl
      · exact h2 x hx
      · omega
    · refine ⟨by simp; omega, fun x hx => ?_⟩
      rcases List.mem_append.1 hx with hx | hx
      · exact h2 x hx
      · simp only [List.mem_singleton] at hx
        omega
theorem asO_inv {z : List Int} {n : Nat} (ok : okSs z n = true) (r : Int) : ∀ k, k ≤ n → ∀ x ∈ asO z r k, 1 ≤ x ∧ x ≤ k
  | 0, _ => by simp [asO]
  | k + 1, hk => by
    have h1 := asO_inv ok r k (by omega)
    have h2 := (asE_inv ok r k (by omega)).1
    have h3 := firstI_le (frP r (shFr z k)) (asE z r k)
    intro x hx
    rw [asO, List.mem_append, List.mem_singleton] at hx
    rcases hx with hx | rfl
    · have := h1 x hx
      omega
    · omega
def asC (z : List Int) (n : Nat) (r : Int) : Bool := okSs z n && inR r 0 168
def asV (z : List Int) (n : Nat) (r : Int) : List Int := if asC z n r = true then asO z r n else []
theorem asV_inv (z : List Int) (n : Nat) (r : Int) : (∀ x ∈ asV z n r, (Lit.int .i64 x).wf = true) ∧ (asV z n r).length ≤ 60 := by
  unfold asV
  by_cases h : asC z n r = true
  · rw [if_pos h]
    unfold asC at h
    rw [Bool.and_eq_true] at h
    have hn := okSs_n h.1
    refine ⟨fun x hx => ?_, by rw [asO_length]; exact hn⟩
    have := asO_inv h.1 r n (Nat.le_refl _) x hx
    exact small_wf (by omega) (by omega)
  · rw [if_neg h]
    simp

set_option maxRecDepth 100000 in
set_option maxHeartbeats 400000 in
theorem asLit_any (g g2 : Nat) (r f y : Int) (w : World) (s0 : w.cell? ⟨g, 0, none⟩ = some (.int .i64 r)) (s1 : w.cell? ⟨g2, 1, none⟩ = some (.int .i64 f)) (h1 : 0 ≤ y) (h2 : y ≤ 168) (h3 : 0 ≤ r) (h4 : r ≤ 168) :
    Calls Try.prog 21 #[.int .i64 y, .pointer (some ⟨g, 0, none⟩), .pointer (some ⟨g2, 0, none⟩)] w fun e w' => e = .returned (.bool (frP r f y)) ∧ w = w' := by
  go_enter Try.func21, Try.ntmps21
  go_wp2_with (fail)
  all_goals (go_ret; refine ⟨ret_bool ?_, rfl⟩)
  all_goals (unfold frP; first | rfl | (simp; omega) | simp [*])

set_option maxRecDepth 100000 in
set_option maxHeartbeats 800000 in
theorem asIndex_any (v : Value) (n : Nat) (z : List Int) (g g2 : Nat) (r f : Int) (w : World) (h : IntRow .i64 1 w v n z) (s0 : w.cell? ⟨g, 0, none⟩ = some (.int .i64 r)) (s1 : w.cell? ⟨g2, 1, none⟩ = some (.int .i64 f)) (hz : ∀ x ∈ z, 0 ≤ x ∧ x ≤ 168) (h3 : 0 ≤ r) (h4 : r ≤ 168) :
    Calls Try.prog 20 #[v, .func (.func 21) #[] #[.pointer (some ⟨g, 0, none⟩), .pointer (some ⟨g2, 0, none⟩)]] w fun e w' => e = .returned (.int .i64 (idxOf (fun i => frP r f (z.getD i 0)) n)) ∧ w = w' := by
  obtain ⟨hl, hm, hwf, a, c, rfl, hnc, hcm, hcell⟩ := h
  unfold maxLen at hm
  have HZ := hid hz
  have HL := hid hl
  obtain ⟨q, hq⟩ : ∃ q, q = idxOf (fun i => frP r f (z.getD i 0)) n := ⟨_, rfl⟩
  rw [← hq]
  have HQ := hid hq
  clear hwf hz hl hq
  go_enter Try.func20, Try.ntmps20
  go_wp2_with (fail)
  go_loop [8] (fun i => ∃ (k : Nat), k ≤ n ∧ i = .int .i64 (k : Int) ∧ (∀ j, j < k → frP r f (z.getD j 0) = false)) (fun i => n - (intOf i).toNat)
  case atStart => exact ⟨0, Nat.zero_le _, rfl, fun j hj => absurd hj (by omega)⟩
  case round =>
    obtain ⟨k, hk, rfl, hall⟩ := hrel
    have HA := hid hall
    clear hall
    by_cases hlt : k < n
    · obtain ⟨b, o, rfl, hb, hc⟩ := hcell.resolve_left (by omega)
      obtain ⟨x, hx⟩ : ∃ x, x = z.getD k 0 := ⟨_, rfl⟩
      have c0 : w.cell? ⟨b, o + k, none⟩ = some (.int .i64 x) := by rw [hc _ (by omega), hx]
      have xb := HZ.out _ (getD_in (l := z) (i := k) (by have := HL.out; omega))
      rw [← hx] at xb
      obtain ⟨xb1, xb2⟩ := xb
      have HX := hid hx
      clear hx hc hcell
      cases hcb : frP r f x with
      | false =>
        go_wp2_with (fail)
        refine (asLit_any g g2 r f x _ s0 s1 xb1 xb2 h3 h4).mono ?_
        rw [hcb]
        rintro e w2 ⟨rfl, rfl⟩
        go_wp2_with (fail)
        go_round
        case rel =>
          refine ⟨k + 1, by omega, by go_num, fun j hj => ?_⟩
          by_cases e : j = k
          · subst e
            rw [← HX.out, hcb]
          · exact HA.out j (by omega)
        case measure => simp [intOf]; omega
      | true =>
        go_wp2_with (fail)
        refine (asLit_any g g2 r f x _ s0 s1 xb1 xb2 h3 h4).mono ?_
        rw [hcb]
        rintro e w2 ⟨rfl, rfl⟩
        go_wp2_with (fail)
        go_ret
        refine ⟨ret_int ?_, rfl⟩
        rw [HQ.out, idxOf_some hlt (by rw [← HX.out, hcb]) HA.out]
    · obtain rfl : k = n := by omega
      clear hcell
      go_wp2_with (fail)
      go_ret
      exact ⟨ret_int (by rw [HQ.out, idxOf_none HA.out]), rfl⟩

theorem int_app (l : List Int) (x : Int) : (l ++ [x]).map (Value.int .i64) = l.map (Value.int .i64) ++ [Value.int .i64 x] := by simp

set_option maxRecDepth 100000 in
set_option maxHeartbeats 4000000 in
theorem iAssignOperators_any (v : Value) (n : Nat) (z : List Int) (r : Int) (w : World) (h : IntRow .i64 3 w v n z) :
    Calls Try.prog 5 #[v, .int .i64 r] w fun e w' => ∃ v', e = .returned (.tuple #[v', .bool (asC z n r)]) ∧ w'.ownsRow w.heap.size 3 1 v' ((asV z n r).length / 1) ((asV z n r).map (Value.int .i64)) ∧ Ext w w' := by
  cases hok : okSs z n with
  | false =>
    have HOK := hid hok
    have hc : asC z n r = false := by unfold asC; rw [hok]; rfl
    rw [show asV z n r = [] by unfold asV; rw [hc]; rfl, hc]
    clear hok hc
    go_enter Try.func5, Try.ntmps5
    go_wp2_with (fail)
    refine (iAreShifts_any v n z _ (h.ext (by repeat (first | exact Ext.refl _ | assumption | refine Ext.alloc ?_ _ | refine Ext.drew ?_ | refine Ext.drewN ?_ _ | refine Ext.setCell ?_ (by first | exact Nat.le_refl _ | (simp; done) | (dsimp only; omega) | (simp only [World.size_alloc, World.size_setCell]; omega)) _ | refine Ext.trans ?_ (by assumption))))).mono ?_
    rw [HOK.out]
    rintro e w1 ⟨rfl, hb1⟩
    go_wp2_with (fail)
    go_ret2
    exact ⟨_, rfl, World.ownsRow_nil _ _ _ _, (by repeat (first | exact Ext.refl _ | assumption | refine Ext.alloc ?_ _ | refine Ext.drew ?_ | refine Ext.drewN ?_ _ | refine Ext.setCell ?_ (by first | exact Nat.le_refl _ | (simp; done) | (dsimp only; omega) | (simp only [World.size_alloc, World.size_setCell]; omega)) _ | refine Ext.trans ?_ (by assumption)))⟩
  | true =>
    have HOK := hid hok
    cases hp : inR r 0 168 with
    | false =>
      have HP := hid hp
      have hc : asC z n r = false := by unfold asC; rw [hp, Bool.and_false]
      rw [show asV z n r = [] by unfold asV; rw [hc]; rfl, hc]
      clear hok hc hp
      go_enter Try.func5, Try.ntmps5
      go_wp2_with (fail)
      refine (iAreShifts_any v n z _ (h.ext (by repeat (first | exact Ext.refl _ | assumption | refine Ext.alloc ?_ _ | refine Ext.drew ?_ | refine Ext.drewN ?_ _ | refine Ext.setCell ?_ (by first | exact Nat.le_refl _ | (simp; done) | (dsimp only; omega) | (simp only [World.size_alloc, World.size_setCell]; omega)) _ | refine Ext.trans ?_ (by assumption))))).mono ?_
      rw [HOK.out]
      rintro e w1 ⟨rfl, hb1⟩
      have c0 : w1.cell? ⟨w.heap.size, 0, none⟩ = some (.int .i64 r) := by rw [(Ext.cells hb1).1 _ _ (by simp)]; simp
      go_wp2_with (go_at_call 19; refine (within_any _ _ _ _).mono ?_; rw [HP.out]; rintro e w' ⟨rfl, rfl⟩)
      go_ret2
      exact ⟨_, rfl, World.ownsRow_nil _ _ _ _, (by repeat (first | exact Ext.refl _ | assumption | refine Ext.alloc ?_ _ | refine Ext.drew ?_ | refine Ext.drewN ?_ _ | refine Ext.setCell ?_ (by first | exact Nat.le_refl _ | (simp; done) | (dsimp only; omega) | (simp only [World.size_alloc, World.size_setCell]; omega)) _ | refine Ext.trans ?_ (by assumption)))⟩
    | true =>
      have HP := hid hp
      have hc : asC z n r = true := by unfold asC; rw [hok, hp]; rfl
      have HV := hid (show asV z n r = asO z r n by unfold asV; rw [if_pos hc])
      rw [HV.out, hc, asO_length, Nat.div_one]
      obtain ⟨i0, hi, hz0, hz1, hz2⟩ := info_parts info_Int
      have hn60 := okSs_n hok
      have pb := inR_iff.1 hp
      obtain ⟨pb1, pb2⟩ := pb
      clear hok hc hp
      have hh := h
      obtain ⟨hl, hm, hwf, a, c, rfl, hnc, hcm, hcell⟩ := h
      unfold maxLen at hm
      clear hwf
      go_enter Try.func5, Try.ntmps5
      go_wp2_with (fail)
      refine (iAreShifts_any _ n z _ (hh.ext (by repeat (first | exact Ext.refl _ | assumption | refine Ext.alloc ?_ _ | refine Ext.drew ?_ | refine Ext.drewN ?_ _ | refine Ext.setCell ?_ (by first | exact Nat.le_refl _ | (simp; done) | (dsimp only; omega) | (simp only [World.size_alloc, World.size_setCell]; omega)) _ | refine Ext.trans ?_ (by assumption))))).mono ?_
      rw [HOK.out]
      rintro e w1 ⟨rfl, hb1⟩
      have c0 : w1.cell? ⟨w.heap.size, 0, none⟩ = some (.int .i64 r) := by rw [(Ext.cells hb1).1 _ _ (by simp)]; simp
      have hE0 : Ext w w1 := (by repeat (first | exact Ext.refl _ | assumption | refine Ext.alloc ?_ _ | refine Ext.drew ?_ | refine Ext.drewN ?_ _ | refine Ext.setCell ?_ (by first | exact Nat.le_refl _ | (simp; done) | (dsimp only; omega) | (simp only [World.size_alloc, World.size_setCell]; omega)) _ | refine Ext.trans ?_ (by assumption)))
      have hs01 := hE0.size
      have hbx : w.heap.size < w1.heap.size := by have := hb1.size; simp at this; omega
      clear hb1
      go_wp2_with (go_at_call 19; refine (within_any _ _ _ _).mono ?_; rw [HP.out]; rintro e w' ⟨rfl, rfl⟩)
      go_loopw [6, 7, 21] (fun o u i wr => ∃ (k : Nat) (vO vE : Value), k ≤ n ∧ i = .int .i64 (k : Int) ∧ o = vO ∧ u = vE ∧ wr.ownsRow w1.heap.size 3 1 vO k ((asO z r k).map (Value.int .i64)) ∧ wr.ownsRow w1.heap.size 3 1 vE (asE z r k).length ((asE z r k).map (Value.int .i64)) ∧ Dis vO vE ∧ Ext w1 wr)
        (fun _ _ i _ => n - (intOf i).toNat)
      case atStart => exact ⟨0, _, _, Nat.zero_le _, rfl, rfl, rfl, World.ownsRow_nil _ _ _ _, World.ownsRow_nil _ _ _ _, Dis.nil_ _, Ext.refl _⟩
      case round =>
        obtain ⟨k, vO, vE, hk, rfl, rfl, rfl, hO, hEr, dis, hX⟩ := hrel
        by_cases hlt : k < n
        · obtain ⟨b, o, rfl, hb0, hc⟩ := hcell.resolve_left (by omega)
          have hb : b < w1.heap.size := Nat.lt_of_lt_of_le hb0 hE0.size
          have hXX := hE0.trans hX
          have hb := hb0
          obtain ⟨x0, hx0⟩ : ∃ x, x = z.getD (k * 3) 0 := ⟨_, rfl⟩
          have s0 : wr.cell? ⟨b, o + k * 3, none⟩ = some (.int .i64 x0) := by rw [(Ext.cells hXX).1 _ _ hb, show o + k * 3 = o + (k * 3) by omega, hc _ (by omega), hx0]
          have H0 := hid hx0
          clear hx0
          obtain ⟨x1, hx1⟩ : ∃ x, x = z.getD (k * 3 + 1) 0 := ⟨_, rfl⟩
          have s1 : wr.cell? ⟨b, o + k * 3 + 1, none⟩ = some (.int .i64 x1) := by rw [(Ext.cells hXX).1 _ _ hb, show o + k * 3 + 1 = o + (k * 3 + 1) by omega, hc _ (by omega), hx1]
          have H1 := hid hx1
          clear hx1
          obtain ⟨x2, hx2⟩ : ∃ x, x = z.getD (k * 3 + 2) 0 := ⟨_, rfl⟩
          have s2 : wr.cell? ⟨b, o + k * 3 + 2, none⟩ = some (.int .i64 x2) := by rw [(Ext.cells hXX).1 _ _ hb, show o + k * 3 + 2 = o + (k * 3 + 2) by omega, hc _ (by omega), hx2]
          have H2 := hid hx2
          clear hx2
          have sb := okSs_bd HOK.out k hlt
          have E0 := hid (show shOp z k = x0 from H0.out.symm)
          have E1 := hid (show shFr z k = x1 from H1.out.symm)
          have E2 := hid (show shTo z k = x2 from H2.out.symm)
          rw [E0.out, E1.out, E2.out] at sb
          obtain ⟨sb1, sb2, sb3, sb4, sb5⟩ := sb
          have einv := asE_inv HOK.out r k (by omega)
          obtain ⟨einv1, einv2⟩ := einv
          have oinv := asO_inv HOK.out r k (by omega)
          have hol := asO_length z r k
          have hstE : asE z r (k + 1) = if firstI (frP r x1) (asE z r k) < (asE z r k).length then (asE z r k).set (firstI (frP r x1) (asE z r k)) x2 else asE z r k ++ [x2] := by rw [asE, E1.out, E2.out]
          have hstO : asO z r (k + 1) = asO z r k ++ [(firstI (frP r x1) (asE z r k) : Int) + 1] := by rw [asO, E1.out]
          obtain ⟨E, hEE⟩ : ∃ E, E = asE z r k := ⟨_, rfl⟩
          obtain ⟨O, hOO⟩ : ∃ O, O = asO z r k := ⟨_, rfl⟩
          rw [← hEE] at hEr hstE hstO einv1 einv2
          rw [← hOO] at hO hstO oinv hol
          obtain ⟨m, hm2⟩ : ∃ m, m = E.length := ⟨_, rfl⟩
          obtain ⟨j, hj⟩ : ∃ j, j = firstI (frP r x1) E := ⟨_, rfl⟩
          have hjm := firstI_le (frP r x1) E
          rw [← hj] at hstE hstO hjm
          rw [← hm2] at hEr hstE hjm einv1
          have HSTE := hid hstE
          have HSTO := hid hstO
          have HM := hid hm2
          have HJ := hid hj
          have HEI := hid einv2
          have hXs := hX.size
          clear hstE hstO hm2 hj hEE hOO oinv einv2 hc hcell
          have b0 : wr.cell? ⟨w.heap.size, 0, none⟩ = some (.int .i64 r) := by rw [(Ext.cells hX).1 _ _ hbx, c0]
          have hbr : w.heap.size < wr.heap.size := Nat.lt_of_lt_of_le hbx hX.size
          have hir := row_ints hEr (by unfold maxLen; omega) (fun x hx => by have := HEI.out x hx; exact small_wf (by omega) (by omega))
          have hix := idx_first (P := frP r x1) (l := E) HM.out.symm
          rw [← HJ.out] at hix
          obtain ⟨aE, cE, rfl, hE1, hE2, hgE⟩ := row_shape hEr
          have HIR := hid hir
          have HIX := hid hix
          have HDIS := hid dis
          have HO := hid hO
          have HE := hid hEr
          clear hir hix dis hO hEr
          by_cases hjl : j < m
          · have HIX2 := hid (show idxOf (fun i => frP r x1 (E.getD i 0)) m = (j : Int) by rw [HIX.out, if_pos hjl])
            obtain ⟨gE, rfl, hg1, hg2⟩ := hgE.resolve_left (by omega)
            obtain ⟨y, hy⟩ : ∃ y, y = E.getD j 0 := ⟨_, rfl⟩
            have sy : wr.cell? ⟨gE, j, none⟩ = some (.int .i64 y) := by rw [HE.out.cellAt j (by omega), map_getD (by have := HM.out; omega), hy]
            have fy := HE.out.frozenAt j
            have hjb : decide ((j : Int) < 0) = false := decide_eq_false (by omega)
            clear hy hgE
            go_wp2_with (fail)
            refine (asIndex_any _ m E w.heap.size wr.heap.size r x1 _ (HIR.out.ext (by repeat (first | exact Ext.refl _ | assumption | refine Ext.alloc ?_ _ | refine Ext.drew ?_ | refine Ext.drewN ?_ _ | refine Ext.setCell ?_ (by first | exact Nat.le_refl _ | (simp; done) | (dsimp only; omega) | (simp only [World.size_alloc, World.size_setCell]; omega)) _ | refine Ext.trans ?_ (by assumption)))) (by simp [go_sem, *]) (by simp [go_sem]) HEI.out pb1 pb2).mono ?_
            rw [HIX2.out]
            rintro e w2 ⟨rfl, rfl⟩
            have hO2 := HO.out.alloc (.cells #[.int .i64 x0, .int .i64 x1, .int .i64 x2] 42)
            have hE2' := HE.out.alloc (.cells #[.int .i64 x0, .int .i64 x1, .int .i64 x2] 42)
            have p2 : (wr.alloc (.cells #[.int .i64 x0, .int .i64 x1, .int .i64 x2] 42)).cell? ⟨wr.heap.size, 2, none⟩ = some (.int .i64 x2) := by simp [go_sem]
            have hX2 := hX.alloc (.cells #[.int .i64 x0, .int .i64 x1, .int .i64 x2] 42)
            have sy2 : (wr.alloc (.cells #[.int .i64 x0, .int .i64 x1, .int .i64 x2] 42)).cell? ⟨gE, j, none⟩ = some (.int .i64 y) := by simp [go_sem, *]
            have fy2 := hE2'.frozenAt j
            have hX2s := hX2.size
            obtain ⟨gx, hgx2⟩ : ∃ g, g = wr.heap.size := ⟨_, rfl⟩
            rw [← hgx2] at p2 ⊢
            clear s0 s1 s2 b0 hgx2 sy fy
            generalize wr.alloc (.cells #[.int .i64 x0, .int .i64 x1, .int .i64 x2] 42) = wx at *
            have st := hE2'.stored j (.int .i64 x2)
            have hO3 := HDIS.out.kept hO2 st.2
            have HST := hid st
            have hX3 : Ext w1 (wx.setCell ⟨gE, j, none⟩ (.int .i64 x2)) := hX2.setCell hg1 _
            clear st
            go_wp2_with (at_builtin; refine wpList_append_lies _ rfl (.tmp 40) (.tmp 43) 26 rfl w1.heap.size 3 i0 _ _ _ Try.underlying26 hi hz0 hz1 hz2 rfl (by decide) _ _ _ rfl (hO3.alloc _) _ 1 1 [.int .i64 ((j : Int) + 1)] rfl rfl (cell_new1 _ _ _ _ (by simp)) (fun x hx => by simp at hx; subst hx; rfl) (by omega) (by unfold maxLen; omega) (by omega) (by simp; omega) _ rfl ?_; intro gO cO w4 hO4 hgr4 hat4 hlt4)
            go_roundw
            case rel =>
              have e4 := HDIS.out.symm.kept (HST.out.1.alloc _) hgr4
              have d4 := (Dis.new (m := k + 1) (c := cO) HDIS.out.symm (HST.out.1.alloc _) hat4).symm
              refine ⟨k + 1, _, _, by omega, by go_num, rfl, rfl, ?_, ?_, d4, ext_append (hX3.alloc _) (hO3.alloc _) (Nat.le_refl _) hgr4⟩
              · rw [HSTO.out, int_app]
                exact hO4
              · rw [HSTE.out, if_pos hjl, List.length_set, ← HM.out, ← map_set_int]
                exact e4
            case measure => simp [intOf]; omega
          · obtain rfl : j = m := by omega
            have HIX2 := hid (show idxOf (fun i => frP r x1 (E.getD i 0)) j = -1 by rw [HIX.out, if_neg hjl])
            clear hgE
            go_wp2_with (fail)
            refine (asIndex_any _ j E w.heap.size wr.heap.size r x1 _ (HIR.out.ext (by repeat (first | exact Ext.refl _ | assumption | refine Ext.alloc ?_ _ | refine Ext.drew ?_ | refine Ext.drewN ?_ _ | refine Ext.setCell ?_ (by first | exact Nat.le_refl _ | (simp; done) | (dsimp only; omega) | (simp only [World.size_alloc, World.size_setCell]; omega)) _ | refine Ext.trans ?_ (by assumption)))) (by simp [go_sem, *]) (by simp [go_sem]) HEI.out pb1 pb2).mono ?_
            rw [HIX2.out]
            rintro e w2 ⟨rfl, rfl⟩
            have hO2 := HO.out.alloc (.cells #[.int .i64 x0, .int .i64 x1, .int .i64 x2] 42)
            have hE2' := HE.out.alloc (.cells #[.int .i64 x0, .int .i64 x1, .int .i64 x2] 42)
            have p2 : (wr.alloc (.cells #[.int .i64 x0, .int .i64 x1, .int .i64 x2] 42)).cell? ⟨wr.heap.size, 2, none⟩ = some (.int .i64 x2) := by simp [go_sem]
            have hX2 := hX.alloc (.cells #[.int .i64 x0, .int .i64 x1, .int .i64 x2] 42)
            have hgx : wr.heap.size < (wr.alloc (.cells #[.int .i64 x0, .int .i64 x1, .int .i64 x2] 42)).heap.size := by simp
            have hlE : ∀ q, (Value.slice aE j cE).ownBlock = some q → q < wr.heap.size := fun q hq => (HE.out.lt q hq).2
            have HLE := hid hlE
            have HO2 := hid hO2
            have HE2 := hid hE2'
            have hX2s := hX2.size
            clear hlE hO2 hE2'
            obtain ⟨gx, hgx2⟩ : ∃ g, g = wr.heap.size := ⟨_, rfl⟩
            rw [← hgx2] at p2 hgx HLE ⊢
            have hgx3 : w1.heap.size ≤ gx := by omega
            clear s0 s1 s2 b0 hgx2
            generalize wr.alloc (.cells #[.int .i64 x0, .int .i64 x1, .int .i64 x2] 42) = wx at *
            go_wp2_with (first
              | (at_builtin; refine wpList_append_lies _ rfl (.tmp 32) (.tmp 33) 26 rfl w1.heap.size 3 i0 _ _ _ Try.underlying26 hi hz0 hz1 hz2 rfl (by decide) _ _ _ rfl (HE2.out.alloc _) _ 1 1 [.int .i64 0] rfl rfl (cell_new1 _ _ _ _ (by simp)) (fun x hx => by simp at hx; subst hx; rfl) (by omega) (by unfold maxLen; omega) (by omega) (by simp; omega) _ rfl ?_; intro gN cN w3 hE3 hgr3 hat3 hlt3; have q2 : w3.cell? ⟨gx, 2, none⟩ = some (.int .i64 x2) := World.grownBy.cell hgr3 (by simp [go_sem, *]) (fun hc => by have := HLE.out gx hc.symm; omega); have cN0 : w3.cell? ⟨gN, j, none⟩ = some (.int .i64 0) := (by rw [hE3.cellAt j (by omega), List.getElem?_append_right (by simp [← HM.out])]; simp [← HM.out]); have fN0 := hE3.frozenAt j; have st3 := hE3.stored j (.int .i64 x2); have hO3 := HDIS.out.kept (HO2.out.alloc _) hgr3; have d3 := Dis.new (m := j + 1) (c := cN) HDIS.out (HO2.out.alloc _) hat3; have hO4 := d3.kept hO3 st3.2; have hX3 := ext_append (hX2.alloc _) (HE2.out.alloc _) (Nat.le_refl _) hgr3; have hgN := (hE3.lt gN rfl).1; have hX4 := hX3.setCell (p := ⟨gN, j, none⟩) hgN (.int .i64 x2); have hX4s := hX4.size; have HST3 := hid st3; have HD3 := hid d3; have HO4 := hid hO4; clear st3 hO3 d3 hO4)
              | (at_builtin; refine wpList_append_lies _ rfl (.tmp 40) (.tmp 43) 26 rfl w1.heap.size 3 i0 _ _ _ Try.underlying26 hi hz0 hz1 hz2 rfl (by decide) _ _ _ rfl (HO4.out.alloc _) _ 1 1 [.int .i64 ((j : Int) + 1)] rfl rfl (cell_new1 _ _ _ _ (by simp)) (fun x hx => by simp at hx; subst hx; rfl) (by omega) (by unfold maxLen; omega) (by omega) (by simp; omega) _ rfl ?_; intro gO cO w5 hO5 hgr5 hat5 hlt5))
            go_roundw
            case rel =>
              have e5 := HD3.out.symm.kept (HST3.out.1.alloc _) hgr5
              have d5 := (Dis.new (m := k + 1) (c := cO) HD3.out.symm (HST3.out.1.alloc _) hat5).symm
              refine ⟨k + 1, _, _, by omega, by go_num, rfl, rfl, ?_, ?_, d5, ext_append (hX4.alloc _) (HO4.out.alloc _) (Nat.le_refl _) hgr5⟩
              · rw [HSTO.out, int_app]
                exact hO5
              · rw [HSTE.out, if_neg hjl, List.length_append, List.length_singleton, ← HM.out, int_app]
                have e6 : (E.map (Value.int .i64) ++ [Value.int .i64 0]).set j (Value.int .i64 x2) = E.map (Value.int .i64) ++ [Value.int .i64 x2] := by
                  rw [List.set_append_right _ _ (by simp [← HM.out])]
                  simp [← HM.out]
                rw [← e6]
                exact e5
            case measure => simp [intOf]; omega
        · obtain rfl : k = n := by omega
          have HO := hid hO
          clear hcell hO hEr
          go_wp2_with (fail)
          go_ret2
          exact ⟨_, rfl, row_mono HO.out hs01, hE0.trans hX⟩

set_option maxRecDepth 100000 in
set_option maxHeartbeats 4000000 in
theorem sAssignOperators_any (v : Value) (n : Nat) (z : List Int) (r : Int) (w : World) (h : IntRow .i64 3 w v n z) :
    Calls Try.prog 6 #[v, .int .i64 r] w fun e w' => ∃ v', e = .returned (.tuple #[v', .bool (asC z n r)]) ∧ w'.ownsRow w.heap.size 3 1 v' ((asV z n r).length / 1) ((asV z n r).map (Value.int .i64)) ∧ Ext w w' := by
  cases hok : okSs z n with
  | false =>
    have HOK := hid hok
    have hc : asC z n r = false := by unfold asC; rw [hok]; rfl
    rw [show asV z n r = [] by unfold asV; rw [hc]; rfl, hc]
    clear hok hc
    go_enter Try.func6, Try.ntmps6
    go_wp2_with (fail)
    refine (shGood_any v n z _ (h.ext (by repeat (first | exact Ext.refl _ | assumption | refine Ext.alloc ?_ _ | refine Ext.drew ?_ | refine Ext.drewN ?_ _ | refine Ext.setCell ?_ (by first | exact Nat.le_refl _ | (simp; done) | (dsimp only; omega) | (simp only [World.size_alloc, World.size_setCell]; omega)) _ | refine Ext.trans ?_ (by assumption))))).mono ?_
    rw [HOK.out]
    rintro e w1 ⟨rfl, hb1⟩
    go_wp2_with (fail)
    go_ret2
    exact ⟨_, rfl, World.ownsRow_nil _ _ _ _, (by repeat (first | exact Ext.refl _ | assumption | refine Ext.alloc ?_ _ | refine Ext.drew ?_ | refine Ext.drewN ?_ _ | refine Ext.setCell ?_ (by first | exact Nat.le_refl _ | (simp; done) | (dsimp only; omega) | (simp only [World.size_alloc, World.size_setCell]; omega)) _ | refine Ext.trans ?_ (by assumption)))⟩
  | true =>
    have HOK := hid hok
    cases hp : inR r 0 168 with
    | false =>
      have HP := hid hp
      have hc : asC z n r = false := by unfold asC; rw [hp, Bool.and_false]
      rw [show asV z n r = [] by unfold asV; rw [hc]; rfl, hc]
      clear hok hc hp
      go_enter Try.func6, Try.ntmps6
      go_wp2_with (fail)
      refine (shGood_any v n z _ (h.ext (by repeat (first | exact Ext.refl _ | assumption | refine Ext.alloc ?_ _ | refine Ext.drew ?_ | refine Ext.drewN ?_ _ | refine Ext.setCell ?_ (by first | exact Nat.le_refl _ | (simp; done) | (dsimp only; omega) | (simp only [World.size_alloc, World.size_setCell]; omega)) _ | refine Ext.trans ?_ (by assumption))))).mono ?_
      rw [HOK.out]
      rintro e w1 ⟨rfl, hb1⟩
      skip
      go_wp2_with (go_at_call 23; refine (l1In_any _ _ _ _).mono ?_; rw [HP.out]; rintro e w' ⟨rfl, rfl⟩)
      go_ret2
      exact ⟨_, rfl, World.ownsRow_nil _ _ _ _, (by repeat (first | exact Ext.refl _ | assumption | refine Ext.alloc ?_ _ | refine Ext.drew ?_ | refine Ext.drewN ?_ _ | refine Ext.setCell ?_ (by first | exact Nat.le_refl _ | (simp; done) | (dsimp only; omega) | (simp only [World.size_alloc, World.size_setCell]; omega)) _ | refine Ext.trans ?_ (by assumption)))⟩
    | true =>
      have HP := hid hp
      have hc : asC z n r = true := by unfold asC; rw [hok, hp]; rfl
      have HV := hid (show asV z n r = asO z r n by unfold asV; rw [if_pos hc])
      rw [HV.out, hc, asO_length, Nat.div_one]
      obtain ⟨i0, hi, hz0, hz1, hz2⟩ := info_parts info_Int
      have hn60 := okSs_n hok
      have pb := inR_iff.1 hp
      obtain ⟨pb1, pb2⟩ := pb
      clear hok hc hp
      have hh := h
      obtain ⟨hl, hm, hwf, a, c, rfl, hnc, hcm, hcell⟩ := h
      unfold maxLen at hm
      clear hwf
      go_enter Try.func6, Try.ntmps6
      go_wp2_with (fail)
      refine (shGood_any _ n z _ (hh.ext (by repeat (first | exact Ext.refl _ | assumption | refine Ext.alloc ?_ _ | refine Ext.drew ?_ | refine Ext.drewN ?_ _ | refine Ext.setCell ?_ (by first | exact Nat.le_refl _ | (simp; done) | (dsimp only; omega) | (simp only [World.size_alloc, World.size_setCell]; omega)) _ | refine Ext.trans ?_ (by assumption))))).mono ?_
      rw [HOK.out]
      rintro e w1 ⟨rfl, hb1⟩
      skip
      have hE0 : Ext w w1 := (by repeat (first | exact Ext.refl _ | assumption | refine Ext.alloc ?_ _ | refine Ext.drew ?_ | refine Ext.drewN ?_ _ | refine Ext.setCell ?_ (by first | exact Nat.le_refl _ | (simp; done) | (dsimp only; omega) | (simp only [World.size_alloc, World.size_setCell]; omega)) _ | refine Ext.trans ?_ (by assumption)))
      have hs01 := hE0.size
      skip
      clear hb1
      go_wp2_with (go_at_call 23; refine (l1In_any _ _ _ _).mono ?_; rw [HP.out]; rintro e w' ⟨rfl, rfl⟩)
      go_loopw [6, 7, 21] (fun o u i wr => ∃ (k : Nat) (vO vE : Value), k ≤ n ∧ i = .int .i64 (k : Int) ∧ o = vO ∧ u = vE ∧ wr.ownsRow w1.heap.size 3 1 vO k ((asO z r k).map (Value.int .i64)) ∧ wr.ownsRow w1.heap.size 3 1 vE (asE z r k).length (((asE z r k).map (fun e => e + r)).map (Value.int .i64)) ∧ Dis vO vE ∧ Ext w1 wr)
        (fun _ _ i _ => n - (intOf i).toNat)
      case atStart => exact ⟨0, _, _, Nat.zero_le _, rfl, rfl, rfl, World.ownsRow_nil _ _ _ _, World.ownsRow_nil _ _ _ _, Dis.nil_ _, Ext.refl _⟩
      case round =>
        obtain ⟨k, vO, vE, hk, rfl, rfl, rfl, hO, hEr, dis, hX⟩ := hrel
        by_cases hlt : k < n
        · obtain ⟨b, o, rfl, hb0, hc⟩ := hcell.resolve_left (by omega)
          have hb : b < w1.heap.size := Nat.lt_of_lt_of_le hb0 hE0.size
          have hXX := hE0.trans hX
          have hb := hb0
          obtain ⟨x0, hx0⟩ : ∃ x, x = z.getD (k * 3) 0 := ⟨_, rfl⟩
          have s0 : wr.cell? ⟨b, o + k * 3, none⟩ = some (.int .i64 x0) := by rw [(Ext.cells hXX).1 _ _ hb, show o + k * 3 = o + (k * 3) by omega, hc _ (by omega), hx0]
          have H0 := hid hx0
          clear hx0
          obtain ⟨x1, hx1⟩ : ∃ x, x = z.getD (k * 3 + 1) 0 := ⟨_, rfl⟩
          have s1 : wr.cell? ⟨b, o + k * 3 + 1, none⟩ = some (.int .i64 x1) := by rw [(Ext.cells hXX).1 _ _ hb, show o + k * 3 + 1 = o + (k * 3 + 1) by omega, hc _ (by omega), hx1]
          have H1 := hid hx1
          clear hx1
          obtain ⟨x2, hx2⟩ : ∃ x, x = z.getD (k * 3 + 2) 0 := ⟨_, rfl⟩
          have s2 : wr.cell? ⟨b, o + k * 3 + 2, none⟩ = some (.int .i64 x2) := by rw [(Ext.cells hXX).1 _ _ hb, show o + k * 3 + 2 = o + (k * 3 + 2) by omega, hc _ (by omega), hx2]
          have H2 := hid hx2
          clear hx2
          have sb := okSs_bd HOK.out k hlt
          have E0 := hid (show shOp z k = x0 from H0.out.symm)
          have E1 := hid (show shFr z k = x1 from H1.out.symm)
          have E2 := hid (show shTo z k = x2 from H2.out.symm)
          rw [E0.out, E1.out, E2.out] at sb
          obtain ⟨sb1, sb2, sb3, sb4, sb5⟩ := sb
          have einv := asE_inv HOK.out r k (by omega)
          obtain ⟨einv1, einv2⟩ := einv
          have oinv := asO_inv HOK.out r k (by omega)
          have hol := asO_length z r k
          have hstE : asE z r (k + 1) = if firstI (frP r x1) (asE z r k) < (asE z r k).length then (asE z r k).set (firstI (frP r x1) (asE z r k)) x2 else asE z r k ++ [x2] := by rw [asE, E1.out, E2.out]
          have hstO : asO z r (k + 1) = asO z r k ++ [(firstI (frP r x1) (asE z r k) : Int) + 1] := by rw [asO, E1.out]
          obtain ⟨E, hEE⟩ : ∃ E, E = asE z r k := ⟨_, rfl⟩
          obtain ⟨O, hOO⟩ : ∃ O, O = asO z r k := ⟨_, rfl⟩
          rw [← hEE] at hEr hstE hstO einv1 einv2
          rw [← hOO] at hO hstO oinv hol
          obtain ⟨m, hm2⟩ : ∃ m, m = E.length := ⟨_, rfl⟩
          obtain ⟨j, hj⟩ : ∃ j, j = firstI (frP r x1) E := ⟨_, rfl⟩
          have hjm := firstI_le (frP r x1) E
          rw [← hj] at hstE hstO hjm
          rw [← hm2] at hEr hstE hjm einv1
          have HSTE := hid hstE
          have HSTO := hid hstO
          have HM := hid hm2
          have HJ := hid hj
          have HEI := hid einv2
          have hXs := hX.size
          clear hstE hstO hm2 hj hEE hOO oinv einv2 hc hcell
          obtain ⟨aE, cE, rfl, hE1, hE2, hgE⟩ := row_shape hEr
          have HDIS := hid dis
          clear dis
          go_wp2_with (fail)
          have hO2 := hO.alloc (.cells #[.int .i64 x0, .int .i64 x1, .int .i64 x2] 42)
          have hE2' := hEr.alloc (.cells #[.int .i64 x0, .int .i64 x1, .int .i64 x2] 42)
          have p1 : (wr.alloc (.cells #[.int .i64 x0, .int .i64 x1, .int .i64 x2] 42)).cell? ⟨wr.heap.size, 1, none⟩ = some (.int .i64 x1) := by simp [go_sem]
          have p2 : (wr.alloc (.cells #[.int .i64 x0, .int .i64 x1, .int .i64 x2] 42)).cell? ⟨wr.heap.size, 2, none⟩ = some (.int .i64 x2) := by simp [go_sem]
          have hX2 := hX.alloc (.cells #[.int .i64 x0, .int .i64 x1, .int .i64 x2] 42)
          have hgx : wr.heap.size < (wr.alloc (.cells #[.int .i64 x0, .int .i64 x1, .int .i64 x2] 42)).heap.size := by simp
          have hlE : ∀ q, (Value.slice aE m cE).ownBlock = some q → q < wr.heap.size := fun q hq => (hEr.lt q hq).2
          have HLE := hid hlE
          have HO2 := hid hO2
          have HE2 := hid hE2'
          clear hlE hO2 hE2' hO hEr
          obtain ⟨gx, hgx2⟩ : ∃ g, g = wr.heap.size := ⟨_, rfl⟩
          rw [← hgx2] at p1 p2 hgx HLE ⊢
          have hgx3 : w1.heap.size ≤ gx := by omega
          have hgE' : m = 0 ∨ ∃ g, aE = some ⟨g, 0, none⟩ ∧ w1.heap.size ≤ g ∧ g < gx := hgE.imp id (fun ⟨g, a1, a2, a3⟩ => ⟨g, a1, a2, by omega⟩)
          clear s0 s1 s2 hgx2 hgE hX hXX hXs
          generalize wr.alloc (.cells #[.int .i64 x0, .int .i64 x1, .int .i64 x2] 42) = wx at *
          go_loopw [10] (fun i wr => ∃ (q : Nat), q ≤ m ∧ i = .int .i64 (q : Int) ∧ (∀ t, t < q → frP r x1 (E.getD t 0) = false) ∧ Ext wx wr)
            (fun i _ => m - (intOf i).toNat)
          case atStart => exact ⟨0, Nat.zero_le _, rfl, fun t ht => absurd ht (by omega), Ext.refl _⟩
          case round =>
            obtain ⟨q, hqm, rfl, hall, hY⟩ := hrel
            have HA := hid hall
            clear hall
            have q1 : wr.cell? ⟨gx, 1, none⟩ = some (.int .i64 x1) := by rw [(Ext.cells hY).1 _ _ hgx, p1]
            have hXr : Ext w1 wr := hX2.trans hY
            by_cases hql : q < m
            · obtain ⟨gE, rfl, hg1, hg2⟩ := hgE'.resolve_left (by omega)
              have hgEx : gE < wx.heap.size := by omega
              obtain ⟨y, hy⟩ : ∃ y, y = E.getD q 0 := ⟨_, rfl⟩
              have yb := HEI.out _ (getD_in (l := E) (i := q) (by have := HM.out; omega))
              rw [← hy] at yb
              obtain ⟨yb1, yb2⟩ := yb
              have sy0 : wx.cell? ⟨gE, q, none⟩ = some (.int .i64 (y + r)) := by
                rw [HE2.out.cellAt q (by omega), map_getD (by rw [List.length_map]; have := HM.out; omega), List.getD_eq_getElem?_getD, List.getElem?_map, List.getElem?_eq_getElem (show q < E.length by have := HM.out; omega), hy, List.getD_eq_getElem?_getD, List.getElem?_eq_getElem (show q < E.length by have := HM.out; omega)]
                rfl
              have sy : wr.cell? ⟨gE, q, none⟩ = some (.int .i64 (y + r)) := by rw [(Ext.cells hY).1 _ _ hgEx, sy0]
              have HY0 := hid hy
              have HSY := hid sy0
              clear hy sy0 hgE'
              have t1 : decide (q < m) = true := decide_eq_true hql
              have u1 : (0 : Int) ≤ (q : Int) := by omega
              have u2 : (q : Int) < m := by omega
              by_cases hyx : x1 < y + r
              · have t2 : decide (x1 < y + r) = true := decide_eq_true hyx
                go_wp2_with (fail)
                go_quiet (fail)
                go_wp2_with (fail)
                go_roundw
                case rel =>
                  refine ⟨q + 1, by omega, by go_num, fun t ht => ?_, (by repeat (first | exact Ext.refl _ | assumption | refine Ext.alloc ?_ _ | refine Ext.drew ?_ | refine Ext.drewN ?_ _ | refine Ext.setCell ?_ (by first | exact Nat.le_refl _ | (simp; done) | (dsimp only; omega) | (simp only [World.size_alloc, World.size_setCell]; omega)) _ | refine Ext.trans ?_ (by assumption)))⟩
                  by_cases e : t = q
                  · subst e
                    rw [← HY0.out]
                    exact decide_eq_false (by omega)
                  · exact HA.out t (by omega)
                case measure => simp [intOf]; omega
              · have t2 : decide (x1 < y + r) = false := decide_eq_false hyx
                have HJQ := hid (show j = q by rw [HJ.out]; exact firstI_eq (by have := HM.out; omega) HA.out (fun _ => by rw [← HY0.out]; exact decide_eq_true (by omega)))
                have t3 : ((q : Int) == (m : Int)) = false := by simp; omega
                go_wp2_with (fail)
                go_quiet (fail)
                rename_i nq
                have hYq := hY.drewN nq
                generalize wr.drewN nq = wq at *
                have hOq := row_ext HO2.out hYq
                have hEq := row_ext HE2.out hYq
                have q2 : wq.cell? ⟨gx, 2, none⟩ = some (.int .i64 x2) := by rw [(Ext.cells hYq).1 _ _ hgx, p2]
                have cE0 : wq.cell? ⟨gE, q, none⟩ = some (.int .i64 (y + r)) := by rw [(Ext.cells hYq).1 _ _ hgEx, HSY.out]
                have fE0 := hEq.frozenAt q
                have hXq : Ext w1 wq := hX2.trans hYq
                have hXqs := hXq.size
                have st := hEq.stored q (.int .i64 (x2 + r))
                have hO3 := HDIS.out.kept hOq st.2
                have HST := hid st
                have hX3 : Ext w1 (wq.setCell ⟨gE, q, none⟩ (.int .i64 (x2 + r))) := hXq.setCell hg1 _
                clear st hEq hOq sy q1
                go_wp2_with (at_builtin; refine wpList_append_lies _ rfl (.tmp 54) (.tmp 57) 26 rfl w1.heap.size 3 i0 _ _ _ Try.underlying26 hi hz0 hz1 hz2 rfl (by decide) _ _ _ rfl (hO3.alloc _) _ 1 1 [.int .i64 ((q : Int) + 1)] rfl rfl (cell_new1 _ _ _ _ (by simp)) (fun x hx => by simp at hx; subst hx; rfl) (by omega) (by unfold maxLen; omega) (by omega) (by simp; omega) _ rfl ?_; intro gO cO w4 hO4 hgr4 hat4 hlt4)
                go_roundw
                case rel =>
                  have e4 := HDIS.out.symm.kept (HST.out.1.alloc _) hgr4
                  have d4 := (Dis.new (m := k + 1) (c := cO) HDIS.out.symm (HST.out.1.alloc _) hat4).symm
                  refine ⟨k + 1, _, _, by omega, by go_num, rfl, rfl, ?_, ?_, d4, ext_append (hX3.alloc _) (hO3.alloc _) (Nat.le_refl _) hgr4⟩
                  · rw [HSTO.out, int_app, HJQ.out]
                    exact hO4
                  · rw [HSTE.out, if_pos (by rw [HJQ.out]; exact hql), List.length_set, ← HM.out, HJQ.out, List.map_set, ← map_set_int]
                    exact e4
                case measure => simp [intOf]; omega
            · obtain rfl : q = m := by omega
              have HJQ := hid (show j = q by rw [HJ.out]; exact firstI_eq (by have := HM.out; omega) HA.out (fun hc => absurd hc (by have := HM.out; omega)))
              have t1 : decide (q < q) = false := by simp
              have t3 : ((q : Int) == (q : Int)) = true := by simp
              clear hgE'
              go_wp2_with (fail)
              go_quiet (fail)
              rename_i nq
              have hYq := hY.drewN nq
              generalize wr.drewN nq = wq at *
              have hOq := row_ext HO2.out hYq
              have hEq := row_ext HE2.out hYq
              have q2 : wq.cell? ⟨gx, 2, none⟩ = some (.int .i64 x2) := by rw [(Ext.cells hYq).1 _ _ hgx, p2]
              have hXq : Ext w1 wq := hX2.trans hYq
              have hXqs := hXq.size
              have hgxq : gx < wq.heap.size := Nat.lt_of_lt_of_le hgx hYq.size
              have HOq := hid hOq
              have HEq := hid hEq
              clear hEq hOq q1
              go_wp2_with (first
                | (at_builtin; refine wpList_append_lies _ rfl (.tmp 44) (.tmp 45) 26 rfl w1.heap.size 3 i0 _ _ _ Try.underlying26 hi hz0 hz1 hz2 rfl (by decide) _ _ _ rfl (HEq.out.alloc _) _ 1 1 [.int .i64 0] rfl rfl (cell_new1 _ _ _ _ (by simp)) (fun x hx => by simp at hx; subst hx; rfl) (by omega) (by unfold maxLen; omega) (by omega) (by simp; omega) _ rfl ?_; intro gN cN w3 hE3 hgr3 hat3 hlt3; have q2' : w3.cell? ⟨gx, 2, none⟩ = some (.int .i64 x2) := World.grownBy.cell hgr3 (by simp [go_sem, *]) (fun hc => by have := HLE.out gx hc.symm; omega); have cN0 : w3.cell? ⟨gN, q, none⟩ = some (.int .i64 0) := (by rw [hE3.cellAt q (by omega), List.getElem?_append_right (by simp [← HM.out])]; simp [← HM.out]); have fN0 := hE3.frozenAt q; have st3 := hE3.stored q (.int .i64 (x2 + r)); have hO3 := HDIS.out.kept (HOq.out.alloc _) hgr3; have d3 := Dis.new (m := q + 1) (c := cN) HDIS.out (HOq.out.alloc _) hat3; have hO4 := d3.kept hO3 st3.2; have hX3 := ext_append (hXq.alloc _) (HEq.out.alloc _) (Nat.le_refl _) hgr3; have hgN := (hE3.lt gN rfl).1; have hX4 := hX3.setCell (p := ⟨gN, q, none⟩) hgN (.int .i64 (x2 + r)); have hX4s := hX4.size; have HST3 := hid st3; have HD3 := hid d3; have HO4 := hid hO4; clear st3 hO3 d3 hO4)
                | (at_builtin; refine wpList_append_lies _ rfl (.tmp 54) (.tmp 57) 26 rfl w1.heap.size 3 i0 _ _ _ Try.underlying26 hi hz0 hz1 hz2 rfl (by decide) _ _ _ rfl (HO4.out.alloc _) _ 1 1 [.int .i64 ((q : Int) + 1)] rfl rfl (cell_new1 _ _ _ _ (by simp)) (fun x hx => by simp at hx; subst hx; rfl) (by omega) (by unfold maxLen; omega) (by omega) (by simp; omega) _ rfl ?_; intro gO cO w5 hO5 hgr5 hat5 hlt5))
              go_roundw
              case rel =>
                have e5 := HD3.out.symm.kept (HST3.out.1.alloc _) hgr5
                have d5 := (Dis.new (m := k + 1) (c := cO) HD3.out.symm (HST3.out.1.alloc _) hat5).symm
                refine ⟨k + 1, _, _, by omega, by go_num, rfl, rfl, ?_, ?_, d5, ext_append (hX4.alloc _) (HO4.out.alloc _) (Nat.le_refl _) hgr5⟩
                · rw [HSTO.out, int_app, HJQ.out]
                  exact hO5
                · rw [HSTE.out, if_neg (by rw [HJQ.out]; omega), List.length_append, List.length_singleton, ← HM.out]
                  have e6 : ((E.map (fun e => e + r)).map (Value.int .i64) ++ [Value.int .i64 0]).set q (Value.int .i64 (x2 + r)) = ((E ++ [x2]).map (fun e => e + r)).map (Value.int .i64) := by
                    rw [List.set_append_right _ _ (by simp [← HM.out])]
                    simp [← HM.out]
                  rw [← e6]
                  exact e5
              case measure => simp [intOf]; omega
        · obtain rfl : k = n := by omega
          have HO := hid hO
          clear hcell hO hEr
          go_wp2_with (fail)
          go_ret2
          exact ⟨_, rfl, row_mono HO.out hs01, hE0.trans hX⟩

end Go.Proofs.Ytijeieacoaopcaa
