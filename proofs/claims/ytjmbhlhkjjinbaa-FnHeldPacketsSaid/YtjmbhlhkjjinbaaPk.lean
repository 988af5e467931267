/- Slices of packets: three integers and a slice of integers each; what the statements' helpers return. No condition. -/
import Derived.Test.YtjmbhlhkjjinbaaNet
import Derived.Test.YtjmbhlhkjjinbaaConvInt
namespace Go.Proofs.Ytjmbhlhkjjinbaa
open Go.RowKit
set_option linter.unusedSimpArgs false
set_option linter.unusedVariables false
open Go.ChangeShapes Go.WideShapes Go.Deep

def totS (S : List (List Int)) : Nat → Nat
  | 0 => 0
  | k + 1 => totS S k + (S.getD k []).length
theorem totS_mono (S : List (List Int)) : ∀ {i j : Nat}, i ≤ j → totS S i ≤ totS S j
  | i, 0, h => by obtain rfl : i = 0 := by omega
                  exact Nat.le_refl _
  | i, j + 1, h => by
    by_cases e : i = j + 1
    · subst e; exact Nat.le_refl _
    · have := totS_mono S (i := i) (j := j) (by omega)
      rw [totS]; omega
theorem totS_at (S : List (List Int)) {k n : Nat} (h : k < n) : totS S k + (S.getD k []).length ≤ totS S n := by
  have := totS_mono S (i := k + 1) (j := n) (by omega)
  rw [totS] at this; exact this

/-- the cells of packet k -/
def PkAt (w : World) (b o : Nat) (z : List Int) (S : List (List Int)) (k : Nat) : Prop :=
  w.cell? ⟨b, o + k * 4, none⟩ = some (.int .i64 (z.getD (k * 3) 0)) ∧ w.cell? ⟨b, o + k * 4 + 1, none⟩ = some (.int .i64 (z.getD (k * 3 + 1) 0)) ∧ w.cell? ⟨b, o + k * 4 + 2, none⟩ = some (.int .i64 (z.getD (k * 3 + 2) 0)) ∧ ∃ u, w.cell? ⟨b, o + k * 4 + 3, none⟩ = some u ∧ IntRow .i64 1 w u (S.getD k []).length (S.getD k [])
def PkRow (w : World) (v : Value) (n : Nat) (z : List Int) (S : List (List Int)) : Prop :=
  z.length = n * 3 ∧ S.length = n ∧ n ≤ maxLen ∧ (∀ x ∈ z, (Lit.int .i64 x).wf = true) ∧ ∃ a c, v = .slice a n c ∧ n ≤ c ∧ c ≤ maxLen ∧
    (n = 0 ∨ ∃ b o, a = some ⟨b, o, none⟩ ∧ b < w.heap.size ∧ ∀ k, k < n → PkAt w b o z S k)
theorem PkAt.ext {w w' : World} {b o : Nat} {z : List Int} {S : List (List Int)} {k : Nat} (h : PkAt w b o z S k) (e : Ext w w') (hb : b < w.heap.size) : PkAt w' b o z S k := by
  obtain ⟨h1, h2, h3, u, h4, h5⟩ := h
  have hc := (Ext.cells e).1
  exact ⟨by rw [hc b _ hb]; exact h1, by rw [hc b _ hb]; exact h2, by rw [hc b _ hb]; exact h3, u, by rw [hc b _ hb]; exact h4, h5.ext e⟩
theorem PkRow.ext {w w' : World} {v : Value} {n : Nat} {z : List Int} {S : List (List Int)} (h : PkRow w v n z S) (e : Ext w w') : PkRow w' v n z S := by
  obtain ⟨h1, h2, h3, h4, a, c, h5, h6, h7, h8⟩ := h
  refine ⟨h1, h2, h3, h4, a, c, h5, h6, h7, ?_⟩
  rcases h8 with h8 | ⟨b, o, ha, hb, hc⟩
  · exact .inl h8
  · exact .inr ⟨b, o, ha, Nat.lt_of_lt_of_le hb e.size, fun k hk => (hc k hk).ext e hb⟩
theorem pkrow_slice {w : World} {v : Value} {n : Nat} {z : List Int} {S : List (List Int)} (h : PkRow w v n z S) : ∃ a c, v = .slice a n c := by
  obtain ⟨_, _, _, _, a, c, rfl, _⟩ := h
  exact ⟨a, c, rfl⟩

section
variable {H : Type} {enc : TypeId × Value → H} {P : Program} {w : World} {base : Nat} {spare : Nat → Bool} {held : Bool}
theorem pk_of_struct {e t3 e3 : TypeId} {f0 f1 f2 f3 : Field} (he : P.underlying e = some (.struct #[f0, f1, f2, f3])) (hone : oneCellFields P #[f0, f1, f2, f3] = true) (hC : P.cellsOf e = 4)
    (h0 : P.underlying f0.type = some (.int .i64)) (h1 : P.underlying f1.type = some (.int .i64)) (h2 : P.underlying f2.type = some (.int .i64)) (h3 : P.underlying f3.type = some (.slice e3)) (hC3 : P.cellsOf e3 = 1) (h4 : P.underlying e3 = some (.int .i64))
    (n : Nat) (cs : List Value) (x : DataW H × List MemPlace) (h : DataW.trod enc P w base spare held n e cs = some x) :
    ∃ (x0 x1 x2 : Int) (u : Value) (m : Nat) (s : List Int), cs = [.int .i64 x0, .int .i64 x1, .int .i64 x2, u] ∧ (Lit.int .i64 x0).wf = true ∧ (Lit.int .i64 x1).wf = true ∧ (Lit.int .i64 x2).wf = true ∧ IntRow .i64 1 w u m s := by
  obtain ⟨xs, mm, _, _, hl, hxl, hf⟩ := DataW.trod_struct he h
  have hl4 : cs.length = 4 := by rw [hl, hC]
  obtain ⟨c0, c1, c2, c3, rfl⟩ : ∃ a b c d, cs = [a, b, c, d] := by
    match cs, hl4 with
    | [a, b, c, d], _ => exact ⟨a, b, c, d, rfl⟩
  have key : ∀ (j : Nat) (f : Field) (v : Value), #[f0, f1, f2, f3][j]? = some f → [c0, c1, c2, c3][j]? = some v → ∃ m y, DataW.trod enc P w base spare held m f.type [v] = some y := by
    intro j f v hj hv
    obtain ⟨ho, hk⟩ := hone_of hone j f hj
    have k1 := hf j f hj
    rw [ho, hk] at k1
    have hjl := (List.getElem?_eq_some_iff.1 hv).1
    have hvv : ([c0, c1, c2, c3].drop j).take 1 = [v] := by
      rw [List.drop_eq_getElem_cons hjl]
      simp [(List.getElem?_eq_some_iff.1 hv).2]
    rw [hvv] at k1
    have hjx : j < xs.length := by
      have : j < 4 := by simpa using hjl
      have : xs.length = 4 := by simpa using hxl
      omega
    rw [List.getElem?_eq_getElem hjx] at k1
    exact ⟨_, _, k1⟩
  obtain ⟨_, _, g0⟩ := key 0 f0 c0 rfl rfl
  obtain ⟨_, _, g1⟩ := key 1 f1 c1 rfl rfl
  obtain ⟨_, _, g2⟩ := key 2 f2 c2 rfl rfl
  obtain ⟨_, _, g3⟩ := key 3 f3 c3 rfl rfl
  obtain ⟨x0, e0, _, w0⟩ := DataW.trod_int h0 g0
  obtain ⟨x1, e1, _, w1⟩ := DataW.trod_int h1 g1
  obtain ⟨x2, e2, _, w2⟩ := DataW.trod_int h2 g2
  obtain ⟨u, m, s, e3', hr⟩ := intRow_open (kd := .i64) (k := 1) (by decide) h3 hC3 (ints_of_int h4) g3
  simp only [List.cons.injEq, and_true] at e0 e1 e2 e3'
  subst e0 e1 e2 e3'
  exact ⟨x0, x1, x2, c3, m, s, rfl, w0, w1, w2, hr⟩
theorem pkRow_open {t e t3 e3 : TypeId} {f0 f1 f2 f3 : Field} {fuel : Nat} {cs : List Value} {x : DataW H × List MemPlace} (ht : P.underlying t = some (.slice e)) (he : P.underlying e = some (.struct #[f0, f1, f2, f3])) (hone : oneCellFields P #[f0, f1, f2, f3] = true) (hC : P.cellsOf e = 4)
    (h0 : P.underlying f0.type = some (.int .i64)) (h1 : P.underlying f1.type = some (.int .i64)) (h2 : P.underlying f2.type = some (.int .i64)) (h3 : P.underlying f3.type = some (.slice e3)) (hC3 : P.cellsOf e3 = 1) (h4 : P.underlying e3 = some (.int .i64))
    (h : DataW.trod enc P w base spare held fuel t cs = some x) : ∃ v n z S, cs = [v] ∧ PkRow w v n z S := by
  rcases DataW.trod_slice ht h with ⟨rfl, _⟩ | ⟨a, len, cap, elems, rest, m, _, rfl, _, _, hl, hm, hlen, hi, _, _⟩
  · exact ⟨_, 0, [], [], rfl, by simp, by simp, Nat.zero_le _, by simp, none, 0, rfl, Nat.le_refl _, Nat.zero_le _, .inl rfl⟩
  · rw [hC] at hi
    have each : ∀ i, i < len → ∃ (x0 x1 x2 : Int) (u : Value) (m : Nat) (s : List Int), (Lit.int .i64 x0).wf = true ∧ (Lit.int .i64 x1).wf = true ∧ (Lit.int .i64 x2).wf = true ∧ IntRow .i64 1 w u m s ∧ ∀ j v, [Value.int .i64 x0, .int .i64 x1, .int .i64 x2, u][j]? = some v → w.cell? (a.add (i * 4 + j)) = some v := by
      intro i hil
      have k1 := hi i hil
      rw [List.getElem?_eq_getElem (by omega)] at k1
      obtain ⟨cs', hc, ht'⟩ := Option.bind_eq_some_iff.1 k1
      obtain ⟨_, hcl, hat⟩ := World.cells?_some hc
      obtain ⟨x0, x1, x2, u, m, s, rfl, w0, w1, w2, hr⟩ := pk_of_struct (t3 := t3) he hone hC h0 h1 h2 h3 hC3 h4 _ _ _ ht'
      refine ⟨x0, x1, x2, u, m, s, w0, w1, w2, hr, fun j v hv => ?_⟩
      have hjl := (List.getElem?_eq_some_iff.1 hv).1
      have := hat j (by simpa using hjl)
      rw [← Go.Deep.add_add, this]
      exact hv
    have all : ∀ N, N ≤ len → ∃ (z : List Int) (S : List (List Int)), z.length = N * 3 ∧ S.length = N ∧ (∀ x ∈ z, (Lit.int .i64 x).wf = true) ∧ ∀ k, k < N → w.cell? (a.add (k * 4)) = some (.int .i64 (z.getD (k * 3) 0)) ∧ w.cell? (a.add (k * 4 + 1)) = some (.int .i64 (z.getD (k * 3 + 1) 0)) ∧ w.cell? (a.add (k * 4 + 2)) = some (.int .i64 (z.getD (k * 3 + 2) 0)) ∧ ∃ u, w.cell? (a.add (k * 4 + 3)) = some u ∧ IntRow .i64 1 w u (S.getD k []).length (S.getD k []) := by
      intro N
      induction N with
      | zero => exact fun _ => ⟨[], [], by simp, by simp, by simp, by simp⟩
      | succ N ih =>
        intro hN
        obtain ⟨z, S, q1, q2, q3, q4⟩ := ih (by omega)
        obtain ⟨x0, x1, x2, u, m, s, w0, w1, w2, hr, hc⟩ := each N (by omega)
        have hs : s.length = m := by simpa using hr.1
        refine ⟨z ++ [x0, x1, x2], S ++ [s], by simp [q1]; omega, by simp [q2], fun x hx => ?_, fun k hk => ?_⟩
        · rcases List.mem_append.1 hx with hx | hx
          · exact q3 x hx
          · simp only [List.mem_cons, List.not_mem_nil, or_false] at hx
            rcases hx with rfl | rfl | rfl
            · exact w0
            · exact w1
            · exact w2
        · by_cases hkN : k < N
          · obtain ⟨p0, p1, p2, u', p3, p4⟩ := q4 k hkN
            have e : ∀ j, j < 3 → (z ++ [x0, x1, x2]).getD (k * 3 + j) 0 = z.getD (k * 3 + j) 0 := fun j hj => by
              simp [List.getD_eq_getElem?_getD, List.getElem?_append_left (show k * 3 + j < z.length by omega)]
            have eS : (S ++ [s]).getD k [] = S.getD k [] := by
              simp [List.getD_eq_getElem?_getD, List.getElem?_append_left (show k < S.length by omega)]
            rw [eS]
            have e0 := e 0 (by omega)
            rw [Nat.add_zero] at e0
            exact ⟨by rw [p0, e0], by rw [p1, e 1 (by omega)], by rw [p2, e 2 (by omega)], u', p3, p4⟩
          · obtain rfl : k = N := by omega
            have e : ∀ j, (z ++ [x0, x1, x2]).getD (k * 3 + j) 0 = [x0, x1, x2].getD j 0 := fun j => by
              simp [List.getD_eq_getElem?_getD, List.getElem?_append_right (show z.length ≤ k * 3 + j by omega), q1]
            have e0 := e 0
            rw [Nat.add_zero] at e0
            have eS : (S ++ [s]).getD k [] = s := by
              simp [List.getD_eq_getElem?_getD, ← q2]
            rw [eS, hs]
            have c0 := hc 0 _ rfl
            rw [Nat.add_zero] at c0
            exact ⟨by rw [c0, e0]; rfl, by rw [hc 1 _ rfl, e 1]; rfl, by rw [hc 2 _ rfl, e 2]; rfl, u, hc 3 _ rfl, hr⟩
    obtain ⟨z, S, q1, q2, q3, q4⟩ := all len (Nat.le_refl _)
    refine ⟨_, len, z, S, rfl, q1, q2, Nat.le_trans hl hm, q3, some a, cap, rfl, hl, hm, ?_⟩
    by_cases h0 : len = 0
    · exact .inl h0
    · right
      obtain ⟨b, o, rfl⟩ : ∃ b o, a = ⟨b, o, none⟩ := by
        have := (q4 0 (by omega)).1
        rw [Nat.zero_mul] at this
        obtain ⟨b, o, rfl, _⟩ := ints_at (w := w) (a := a) (zs := [z.getD 0 0]) (k := .i64) (fun i hi => by
          obtain rfl : i = 0 := by simpa using hi
          simpa using this) (by simp)
        exact ⟨b, o, rfl⟩
      refine ⟨b, o, rfl, ?_, fun k hk => ?_⟩
      · have := World.block_lt_of_cell? w _ (q4 0 (by omega)).1
        simpa [Addr.add] using this
      · obtain ⟨p0, p1, p2, u, p3, p4⟩ := q4 k hk
        rw [add_plain] at p0 p1 p2 p3
        exact ⟨p0, p1, p2, u, p3, p4⟩
end

theorem info_Packet : (Try.prog.info? 38).map (fun i => (i.zero, i.size, i.bytes)) = some (some (.agg #[.int .i64 0, .int .i64 0, .int .i64 0, .slice none 0 0]), 4, 48) := by kernel_rfl

/-- the tail of a walk over packets that came in: the cells of packet k in a later world -/
theorem PkAt.parts {w : World} {b o : Nat} {z : List Int} {S : List (List Int)} {k : Nat} (h : PkAt w b o z S k) : ∃ (x0 x1 x2 : Int) (u : Value), z.getD (k * 3) 0 = x0 ∧ z.getD (k * 3 + 1) 0 = x1 ∧ z.getD (k * 3 + 2) 0 = x2 ∧ w.cell? ⟨b, o + k * 4, none⟩ = some (.int .i64 x0) ∧ w.cell? ⟨b, o + k * 4 + 1, none⟩ = some (.int .i64 x1) ∧ w.cell? ⟨b, o + k * 4 + 2, none⟩ = some (.int .i64 x2) ∧ w.cell? ⟨b, o + k * 4 + 3, none⟩ = some u ∧ IntRow .i64 1 w u (S.getD k []).length (S.getD k []) := by
  obtain ⟨h1, h2, h3, u, h4, h5⟩ := h
  exact ⟨_, _, _, u, rfl, rfl, rfl, h1, h2, h3, h4, h5⟩

/-- blocks of different element types differ -/
theorem own_ne2 {w : World} {e e' : TypeId} {b b' s s' n n' g : Nat} {v v' : Value} {xs xs' : List Value} (h : w.ownsRow b e s v n xs) (h' : w.ownsRow b' e' s' v' n' xs') (hne : e ≠ e') (hv : v.ownBlock = some g) : v'.ownBlock ≠ some g := by
  intro hv'
  rcases h.2 with ⟨rfl, _⟩ | ⟨g1, c1, cur1, rfl, _, hg1, _⟩
  · simp [Value.ownBlock] at hv
  · rcases h'.2 with ⟨rfl, _⟩ | ⟨g2, c2, cur2, rfl, _, hg2, _⟩
    · simp [Value.ownBlock] at hv'
    · simp only [Value.ownBlock, Option.some.injEq] at hv hv'
      subst hv
      subst hv'
      rw [hg1] at hg2
      simp only [Option.some.injEq, Obj.cells.injEq] at hg2
      exact hne hg2.2.1
def hdS (S : List (List Int)) (g : Nat → Nat) (k : Nat) : Value := .slice (some ⟨g k, 0, none⟩) (S.getD k []).length (S.getD k []).length
/-- packets of the call's own: an outer row of n, of which the first m are filled, and a row for each packet's signals -/
structure OwnPk (w : World) (base G n m : Nat) (z : List Int) (S : List (List Int)) (g : Nat → Nat) : Prop where
  row : ∃ xs, w.ownsRow base 38 4 (.slice (some ⟨G, 0, none⟩) n n) n xs ∧ ∀ k, k < m → xs[k * 4]? = some (.int .i64 (z.getD (k * 3) 0)) ∧ xs[k * 4 + 1]? = some (.int .i64 (z.getD (k * 3 + 1) 0)) ∧ xs[k * 4 + 2]? = some (.int .i64 (z.getD (k * 3 + 2) 0)) ∧ xs[k * 4 + 3]? = some (hdS S g k)
  ins : ∀ k, k < m → w.ownsRow base 3 1 (hdS S g k) (S.getD k []).length ((S.getD k []).map (Value.int .i64))
  inc : ∀ i j, i < j → j < m → g i < g j
section
variable {w w' : World} {base G n m : Nat} {z : List Int} {S : List (List Int)} {g : Nat → Nat}
theorem OwnPk.ext (h : OwnPk w base G n m z S g) (e : Ext w w') : OwnPk w' base G n m z S g := by
  obtain ⟨⟨xs, h1, h2⟩, h3, h4⟩ := h
  exact ⟨⟨xs, row_ext h1 e, h2⟩, fun k hk => row_ext (h3 k hk) e, h4⟩
theorem OwnPk.chg {lo hi : Nat} (h : OwnPk w base G n m z S g) (c : Chg lo hi w w') (hb : hi ≤ base) : OwnPk w' base G n m z S g := by
  obtain ⟨⟨xs, h1, h2⟩, h3, h4⟩ := h
  exact ⟨⟨xs, row_chg h1 c (fun k hk => .inr (Nat.le_trans hb (h1.lt k hk).1)), h2⟩, fun k hk => row_chg (h3 k hk) c (fun j hj => .inr (Nat.le_trans hb ((h3 k hk).lt j hj).1)), h4⟩
theorem OwnPk.mono {base' : Nat} (h : OwnPk w base G n m z S g) (hb : base' ≤ base) : OwnPk w base' G n m z S g := by
  obtain ⟨⟨xs, h1, h2⟩, h3, h4⟩ := h
  exact ⟨⟨xs, row_mono h1 hb, h2⟩, fun k hk => row_mono (h3 k hk) hb, h4⟩
theorem OwnPk.lt (h : OwnPk w base G n m z S g) : base ≤ G ∧ G < w.heap.size ∧ ∀ k, k < m → base ≤ g k ∧ g k < w.heap.size := by
  obtain ⟨⟨xs, h1, h2⟩, h3, h4⟩ := h
  exact ⟨(h1.lt G rfl).1, (h1.lt G rfl).2, fun k hk => (h3 k hk).lt _ rfl⟩
theorem OwnPk.pk (h : OwnPk w base G n n z S g) (hz : z.length = n * 3) (hS : S.length = n) (hn : n ≤ maxLen) (hw : ∀ x ∈ z, (Lit.int .i64 x).wf = true) (hs : ∀ k, k < n → (S.getD k []).length ≤ maxLen ∧ ∀ x ∈ S.getD k [], (Lit.int .i64 x).wf = true) :
    PkRow w (.slice (some ⟨G, 0, none⟩) n n) n z S := by
  obtain ⟨⟨xs, h1, h2⟩, h3, h4⟩ := h
  refine ⟨hz, hS, hn, hw, _, _, rfl, Nat.le_refl _, hn, .inr ⟨G, 0, rfl, (h1.lt G rfl).2, fun k hk => ?_⟩⟩
  obtain ⟨a0, a1, a2, a3⟩ := h2 k hk
  have key : ∀ j u, j < 4 → xs[k * 4 + j]? = some u → w.cell? ⟨G, 0 + k * 4 + j, none⟩ = some u := by
    intro j u hj e
    rw [show 0 + k * 4 + j = k * 4 + j by omega, h1.cellAt (k * 4 + j) (by omega), e]
  exact ⟨key 0 _ (by omega) a0, key 1 _ (by omega) a1, key 2 _ (by omega) a2, _, key 3 _ (by omega) a3, row_ints (h3 k hk) (hs k hk).1 (hs k hk).2⟩
theorem OwnPk.step {w2 : World} {k gk q : Nat} (h : OwnPk w base G n k z S g) (hk : k < n) (hE : Ext w w2) (hq : (S.getD k []).length = q) (hr : w2.ownsRow w.heap.size 3 1 (.slice (some ⟨gk, 0, none⟩) q q) q ((S.getD k []).map (Value.int .i64))) (hb : base ≤ w.heap.size) :
    ∃ g', OwnPk ((((w2.setCell ⟨G, k * 4, none⟩ (.int .i64 (z.getD (k * 3) 0))).setCell ⟨G, k * 4 + 1, none⟩ (.int .i64 (z.getD (k * 3 + 1) 0))).setCell ⟨G, k * 4 + 2, none⟩ (.int .i64 (z.getD (k * 3 + 2) 0))).setCell ⟨G, k * 4 + 3, none⟩ (.slice (some ⟨gk, 0, none⟩) q q)) base G n (k + 1) z S g' := by
  have hlt := h.lt
  obtain ⟨⟨xs, h1, h2⟩, h3, h4⟩ := h
  have hg := hr.lt gk rfl
  subst hq
  have h12 := row_ext h1 hE
  have q0 := (h12.stored (k * 4) (.int .i64 (z.getD (k * 3) 0))).1
  have q1 := (q0.stored (k * 4 + 1) (.int .i64 (z.getD (k * 3 + 1) 0))).1
  have q2 := (q1.stored (k * 4 + 2) (.int .i64 (z.getD (k * 3 + 2) 0))).1
  have q3 := (q2.stored (k * 4 + 3) (.slice (some ⟨gk, 0, none⟩) (S.getD k []).length (S.getD k []).length)).1
  have key : ∀ {v : Value} {c : Nat} {ys : List Value}, w2.ownsRow base 3 1 v c ys → ((((w2.setCell ⟨G, k * 4, none⟩ (.int .i64 (z.getD (k * 3) 0))).setCell ⟨G, k * 4 + 1, none⟩ (.int .i64 (z.getD (k * 3 + 1) 0))).setCell ⟨G, k * 4 + 2, none⟩ (.int .i64 (z.getD (k * 3 + 2) 0))).setCell ⟨G, k * 4 + 3, none⟩ (.slice (some ⟨gk, 0, none⟩) (S.getD k []).length (S.getD k []).length)).ownsRow base 3 1 v c ys := by
    intro v c ys ho
    have hne : ∀ j, v.ownBlock = some j → j ≠ G := fun j hj e => own_ne2 ho h12 (by decide) hj (by rw [e]; rfl)
    exact row_set (row_set (row_set (row_set ho hne) hne) hne) hne
  refine ⟨fun j => if j = k then gk else g j, ⟨_, q3, fun j hj => ?_⟩, fun j hj => ?_, fun i j hij hj => ?_⟩
  · have hl := h1.1
    simp only [List.getElem?_set, List.length_set]
    by_cases e : j = k
    · subst e
      unfold hdS
      simp only [if_pos, hl]
      refine ⟨?_, ?_, ?_, ?_⟩
      · rw [if_neg (by omega), if_neg (by omega), if_neg (by omega), if_pos (by omega)]
      · rw [if_neg (by omega), if_neg (by omega), if_pos (by omega)]
      · rw [if_neg (by omega), if_pos (by omega)]
      · rw [if_pos (by omega)]
    · have hd : hdS S (fun j => if j = k then gk else g j) j = hdS S g j := by unfold hdS; simp only [if_neg e]
      rw [hd]
      obtain ⟨a0, a1, a2, a3⟩ := h2 j (by omega)
      refine ⟨?_, ?_, ?_, ?_⟩
      all_goals rw [if_neg (by omega), if_neg (by omega), if_neg (by omega), if_neg (by omega)]
      all_goals assumption
  · by_cases e : j = k
    · subst e
      have hd : hdS S (fun i => if i = j then gk else g i) j = .slice (some ⟨gk, 0, none⟩) (S.getD j []).length (S.getD j []).length := by unfold hdS; simp
      rw [hd]
      exact key (row_mono hr hb)
    · have hd : hdS S (fun j => if j = k then gk else g j) j = hdS S g j := by unfold hdS; simp only [if_neg e]
      rw [hd]
      exact key (row_ext (h3 j (by omega)) hE)
  · by_cases e : j = k
    · subst e
      have := (hlt.2.2 i hij).2
      simp only [if_pos]
      rw [if_neg (by omega)]
      omega
    · rw [if_neg e, if_neg (by omega)]
      exact h4 i j hij (by omega)
end

/-- what packets that came in say of lengths -/
theorem PkRow.sig {w : World} {v : Value} {n : Nat} {z : List Int} {S : List (List Int)} (h : PkRow w v n z S) : ∀ k, k < n → (S.getD k []).length ≤ maxLen ∧ ∀ x ∈ S.getD k [], (Lit.int .i64 x).wf = true := by
  obtain ⟨_, _, _, _, a, c, rfl, _, _, hc⟩ := h
  intro k hk
  obtain ⟨b, o, rfl, _, hc⟩ := hc.resolve_left (by omega)
  obtain ⟨_, _, _, u, _, hr⟩ := hc k hk
  exact ⟨hr.2.1, hr.2.2.1⟩
end Go.Proofs.Ytjmbhlhkjjinbaa
