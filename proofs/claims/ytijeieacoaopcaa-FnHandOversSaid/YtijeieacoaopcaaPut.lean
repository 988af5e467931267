/- Lists of ints of the reference: membership, the increasing list with a number put in. No condition. -/
import Derived.Test.YtijeieacoaopcaaConvInt
namespace Go.Proofs.Ytijeieacoaopcaa
open Go.RowKit
set_option linter.unusedSimpArgs false
set_option linter.unusedVariables false

def putL : List Int → Int → List Int
  | [], n => [n]
  | x :: l, n => if x < n then x :: putL l n else if x = n then x :: l else n :: x :: l
def cutL : List Int → Int → Nat
  | [], _ => 0
  | x :: l, n => if x < n then cutL l n + 1 else 0
theorem cutL_le (l : List Int) (n : Int) : cutL l n ≤ l.length := by
  induction l with
  | nil => simp [cutL]
  | cons x l ih => rw [cutL]; split <;> simp <;> omega
theorem cutL_lt (n : Int) : ∀ (l : List Int) (j : Nat), j < cutL l n → l.getD j 0 < n
  | [], j, h => by simp [cutL] at h
  | x :: l, j, h => by
    rw [cutL] at h
    by_cases c : x < n
    · rw [if_pos c] at h
      cases j with
      | zero => simpa using c
      | succ j => simpa using cutL_lt n l j (by omega)
    · rw [if_neg c] at h; omega
theorem cutL_eq (n : Int) : ∀ (l : List Int) (k : Nat), k ≤ l.length → (∀ j, j < k → l.getD j 0 < n) → (k < l.length → ¬ l.getD k 0 < n) → cutL l n = k
  | [], k, h, _, _ => by simp at h; simp [cutL, h]
  | x :: l, k, h, h1, h2 => by
    rw [cutL]
    cases k with
    | zero => rw [if_neg (by simpa using h2 (by simp))]
    | succ k =>
      rw [if_pos (by simpa using h1 0 (by omega)), cutL_eq n l k (by simpa using h) (fun j hj => by simpa using h1 (j + 1) (by omega)) (fun hk => by simpa using h2 (by simpa using hk))]
theorem putL_cut (n : Int) : ∀ l : List Int, putL l n = if cutL l n < l.length ∧ l.getD (cutL l n) 0 = n then l else l.take (cutL l n) ++ (n :: l.drop (cutL l n))
  | [] => by simp [putL, cutL]
  | x :: l => by
    rw [putL, cutL]
    by_cases c : x < n
    · rw [if_pos c, if_pos c, putL_cut n l]
      by_cases d : cutL l n < l.length ∧ l.getD (cutL l n) 0 = n
      · rw [if_pos d, if_pos (by simpa using d)]
      · rw [if_neg d, if_neg (by simpa using d)]; simp
    · rw [if_neg c, if_neg c]
      by_cases d : x = n
      · rw [if_pos d, if_pos (by simp [d])]
      · rw [if_neg d, if_neg (by simp [d])]; simp
theorem mem_putL {x n : Int} : ∀ {l : List Int}, x ∈ putL l n ↔ x = n ∨ x ∈ l
  | [] => by simp [putL]
  | y :: l => by
    rw [putL]
    by_cases c : y < n
    · rw [if_pos c]; simp only [List.mem_cons, mem_putL (l := l)]; constructor <;> rintro (h | h | h) <;> simp [h]
    · rw [if_neg c]
      by_cases d : y = n
      · rw [if_pos d]; subst d; simp
      · rw [if_neg d]; simp
theorem putL_sorted {n : Int} : ∀ {l : List Int}, l.Pairwise (· < ·) → (putL l n).Pairwise (· < ·)
  | [], _ => by simp [putL]
  | y :: l, h => by
    rw [List.pairwise_cons] at h
    rw [putL]
    by_cases c : y < n
    · rw [if_pos c, List.pairwise_cons]
      exact ⟨fun x hx => by rcases mem_putL.1 hx with rfl | hx; exact c; exact h.1 x hx, putL_sorted h.2⟩
    · rw [if_neg c]
      by_cases d : y = n
      · rw [if_pos d, List.pairwise_cons]; exact h
      · rw [if_neg d, List.pairwise_cons]
        refine ⟨fun x hx => ?_, List.pairwise_cons.2 h⟩
        rcases List.mem_cons.1 hx with rfl | hx
        · omega
        · have := h.1 x hx; omega
theorem putL_length {n : Int} : ∀ {l : List Int}, l.Pairwise (· < ·) → (putL l n).length = if n ∈ l then l.length else l.length + 1
  | [], _ => by simp [putL]
  | y :: l, h => by
    rw [List.pairwise_cons] at h
    rw [putL]
    by_cases c : y < n
    · rw [if_pos c, List.length_cons, putL_length h.2]
      have : ¬ n = y := by omega
      simp only [List.mem_cons, this, false_or, List.length_cons]
      split <;> rfl
    · rw [if_neg c]
      by_cases d : y = n
      · rw [if_pos d, if_pos (by simp [d])]
      · rw [if_neg d, if_neg]
        · simp
        · rw [List.mem_cons]
          rintro (e | e)
          · exact d e.symm
          · have := h.1 n e; omega
theorem putL_len_le {n : Int} : ∀ (l : List Int), l.length ≤ (putL l n).length ∧ (putL l n).length ≤ l.length + 1
  | [] => by simp [putL]
  | y :: l => by
    rw [putL]
    have := putL_len_le (n := n) l
    split
    · simp; omega
    · split <;> simp
/-- two strictly rising lists with the same members are the same -/
theorem sorted_ext : ∀ {a b : List Int}, a.Pairwise (· < ·) → b.Pairwise (· < ·) → (∀ x, x ∈ a ↔ x ∈ b) → a = b
  | [], [], _, _, _ => rfl
  | [], y :: b, _, _, h => by have := (h y).2 (by simp); simp at this
  | x :: a, [], _, _, h => by have := (h x).1 (by simp); simp at this
  | x :: a, y :: b, ha, hb, h => by
    rw [List.pairwise_cons] at ha hb
    have exy : x = y := by
      have h1 := (h x).1 (by simp)
      have h2 := (h y).2 (by simp)
      rw [List.mem_cons] at h1 h2
      rcases h1 with h1 | h1
      · exact h1
      · rcases h2 with h2 | h2
        · exact h2.symm
        · have := hb.1 x h1; have := ha.1 y h2; omega
    subst exy
    rw [sorted_ext ha.2 hb.2 fun z => ?_]
    have hz := h z
    simp only [List.mem_cons] at hz
    constructor
    · intro m
      rcases hz.1 (.inr m) with e | e
      · subst e; have := ha.1 z m; omega
      · exact e
    · intro m
      rcases hz.2 (.inr m) with e | e
      · subst e; have := hb.1 z m; omega
      · exact e

theorem getD_in {l : List Int} {i : Nat} (h : i < l.length) : l.getD i 0 ∈ l := by
  rw [List.getD_eq_getElem?_getD, List.getElem?_eq_getElem h]
  exact List.getElem_mem _

theorem mem_iff_getD {z : List Int} {p : Int} : p ∈ z ↔ ∃ j, j < z.length ∧ z.getD j 0 = p := by
  rw [List.mem_iff_getElem]
  constructor
  · rintro ⟨j, h, e⟩
    exact ⟨j, h, by rw [List.getD_eq_getElem?_getD, List.getElem?_eq_getElem h]; exact e⟩
  · rintro ⟨j, h, e⟩
    refine ⟨j, h, ?_⟩
    rw [List.getD_eq_getElem?_getD, List.getElem?_eq_getElem h] at e
    exact e


theorem IntRow.take {kd : IntKind} {w : World} {a : Option Addr} {n c : Nat} {z : List Int} (h : IntRow kd 1 w (.slice a n c) n z) {k : Nat} (hk : k ≤ n) : IntRow kd 1 w (.slice a k c) k (z.take k) := by
  obtain ⟨h1, h2, h3, a', c', h4, h5, h6, h7⟩ := h
  injection h4 with e1 e2 e3
  subst e1
  subst e3
  refine ⟨by rw [List.length_take]; omega, by omega, fun x hx => h3 x (List.mem_of_mem_take hx), a, c, rfl, by omega, h6, ?_⟩
  by_cases h0 : k = 0
  · exact .inl h0
  · obtain ⟨b, o, ha, hb, hc⟩ := h7.resolve_left (by omega)
    refine .inr ⟨b, o, ha, hb, fun j hj => ?_⟩
    rw [hc j (by omega), List.getD_eq_getElem?_getD, List.getD_eq_getElem?_getD, List.getElem?_take, if_pos (by omega)]
theorem IntRow.drop {kd : IntKind} {w : World} {b o n c : Nat} {z : List Int} (h : IntRow kd 1 w (.slice (some ⟨b, o, none⟩) n c) n z) {k : Nat} (hk : k ≤ n) : IntRow kd 1 w (.slice (some ⟨b, o + k, none⟩) (n - k) (c - k)) (n - k) (z.drop k) := by
  obtain ⟨h1, h2, h3, a', c', h4, h5, h6, h7⟩ := h
  injection h4 with e1 e2 e3
  subst e1
  subst e3
  refine ⟨by rw [List.length_drop]; omega, by omega, fun x hx => h3 x (List.mem_of_mem_drop hx), _, c - k, rfl, by omega, by omega, ?_⟩
  by_cases h0 : n - k = 0
  · exact .inl h0
  · obtain ⟨b', o', ha, hb, hc⟩ := h7.resolve_left (by omega)
    simp only [Option.some.injEq, Addr.mk.injEq, and_true] at ha
    obtain ⟨rfl, rfl⟩ := ha
    refine .inr ⟨b, o + k, rfl, hb, fun j hj => ?_⟩
    rw [show o + k + j = o + (k + j) by omega, hc (k + j) (by omega), List.getD_eq_getElem?_getD, List.getD_eq_getElem?_getD, List.getElem?_drop]
theorem IntRow.none_ {kd : IntKind} (w : World) (a : Option Addr) (c : Nat) (hc : c ≤ maxLen) : IntRow kd 1 w (.slice a 0 c) 0 [] :=
  ⟨by simp, Nat.zero_le _, by simp, a, c, rfl, Nat.zero_le _, hc, .inl rfl⟩

theorem Ext.of_own {a w w' : World} {g o n c : Nat} (h : Ext a w) (gr : w.grownBy w' (Value.slice (some ⟨g, o, none⟩) n c).ownBlock) (hg : a.heap.size ≤ g) : Ext a w' :=
  h.of_grownAt gr (fun k hk => by
    have : g = k := by simpa [Value.ownBlock] using hk
    omega)

/-- 'append(out, xs...)', out a row of the call's own, xs any slice of ints -/
theorem wpList_append_src {w : World} {ops : Array Oper} {rest : List Oper} {o : Oper} {a : Act} {Q : Exit → Act → World → Prop} (hgd : o.guard = none) (s x : Operand) (t : TypeId)
    (ho : o.op = .call { callee := .builtin .append, args := #[s, x], argTypes := #[t, t] })
    (base : Nat) (e : TypeId) (i : TypeInfo) (z : Value) (ht : Try.prog.underlying t = some (.slice e)) (hi : Try.prog.info? e = some i) (hz : i.zero = some z)
    (hsize : i.size = 1) (hby : i.bytes = 8) (hzs : z.cells.size = 1)
    (v : Value) (n : Nat) (xs : List Value) (hs : a.eval s = v) (hown : w.ownsRow base e 1 v n xs)
    (vx : Value) (m : Nat) (zs : List Int) (hx : a.eval x = vx) (hr : IntRow .i64 1 w vx m zs)
    (h63 : n + m ≤ 1048576 * 4) (hbase : base ≤ w.heap.size)
    (h : ∀ v' w', w'.ownsRow base e 1 v' (n + m) (xs ++ zs.map (Value.int .i64)) → w.grownBy w' v.ownBlock → wpList Try.prog ops Q rest (a.put o.dst v') w') : wpList Try.prog ops Q (o :: rest) a w := by
  obtain ⟨h1, h2, h3, ad, c, rfl, h5, h6, h7⟩ := hr
  cases ad with
  | none =>
    have hm : m = 0 := by
      rcases h7 with h7 | ⟨b, o, ha, _⟩
      · exact h7
      · cases ha
    subst hm
    obtain rfl : zs = [] := List.eq_nil_of_length_eq_zero (by simpa using h1)
    refine wpList_plain hgd fun K hK => ?_
    have hrun : (Builtin.append_ #[t, t] o.type #[v, .slice none 0 c]).run Try.prog w = .ok v w := by
      rcases hown.2 with ⟨rfl, rfl⟩ | ⟨g, cap, cur, rfl, _, _, hnc, _⟩
      · simp [Builtin.append_, run_underlying ht, sizeOf, typeInfo, hi, Builtin.lenOf, Builtin.firstCells]
      · simp [Builtin.append_, run_underlying ht, sizeOf, typeInfo, hi, Builtin.lenOf, Builtin.firstCells, hnc, storeCells]
    unfold Oper.wp
    simp [execOp, ho, resolve, invoke, builtin, hs, hx, hrun, Result.andThen]
    exact hK _ _ (by simpa using h v w (by simpa using hown) (World.grownBy.refl _ _))
  | some ad =>
    refine wpList_append_own w hgd s x t ho base e i z 1 8 ht hi hz hsize hby hzs (by omega) v n xs hs hown ad m c (zs.map (Value.int .i64)) hx (by simpa using h1) ?_ (ints_oneCell _ _) (by unfold maxLen; omega) (by omega) hbase (fun v' w' a1 a2 _ => h v' w' a1 a2)
    intro j u hu
    have hj : j < zs.length := by
      have := (List.getElem?_eq_some_iff.1 hu).1
      simpa using this
    obtain ⟨b, o', ha, hb, hc⟩ := h7.resolve_left (by omega)
    simp only [Option.some.injEq] at ha
    subst ha
    rw [Addr.add_lit, hc j (by omega)]
    rw [map_getD hj] at hu
    exact hu
end Go.Proofs.Ytijeieacoaopcaa
