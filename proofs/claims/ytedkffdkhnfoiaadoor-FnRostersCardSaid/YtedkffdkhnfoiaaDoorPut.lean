/- Lists of ints of the reference: membership, the increasing list with a number put in. No condition. -/
import Derived.Test.YtedkffdkhnfoiaaDoorConvInt
namespace Go.Proofs.YtedkffdkhnfoiaaDoor
open Go.RowKit
set_option linter.unusedSimpArgs false
set_option linter.unusedVariables false

def putL : List Int → Int → List Int
  | [], n => [n]
  | x :: l, n => if x < n then x :: putL l n else if x = n then x :: l else n :: x :: l
def cutL : List Int → Int → Nat
  | [], _ => 0
  | x :: l, n => if x < n then cutL l n + 1 else 0
theorem cutL_le (l : List Int) (n : Int) : cutL l n ≤ l.length := by
  induction l with
  | nil => simp [cutL]
  | cons x l ih => rw [cutL]; split <;> simp <;> omega
theorem cutL_lt (n : Int) : ∀ (l : List Int) (j : Nat), j < cutL l n → l.getD j 0 < n
  | [], j, h => by simp [cutL] at h
  | x :: l, j, h => by
    rw [cutL] at h
    by_cases c : x < n
    · rw [if_pos c] at h
      cases j with
      | zero => simpa using c
      | succ j => simpa using cutL_lt n l j (by omega)
    · rw [if_neg c] at h; omega
theorem cutL_eq (n : Int) : ∀ (l : List Int) (k : Nat), k ≤ l.length → (∀ j, j < k → l.getD j 0 < n) → (k < l.length → ¬ l.getD k 0 < n) → cutL l n = k
  | [], k, h, _, _ => by simp at h; simp [cutL, h]
  | x :: l, k, h, h1, h2 => by
    rw [cutL]
    cases k with
    | zero => rw [if_neg (by simpa using h2 (by simp))]
    | succ k =>
      rw [if_pos (by simpa using h1 0 (by omega)), cutL_eq n l k (by simpa using h) (fun j hj => by simpa using h1 (j + 1) (by omega)) (fun hk => by simpa using h2 (by simpa using hk))]
theorem putL_cut (n : Int) : ∀ l : List Int, putL l n = if cutL l n < l.length ∧ l.getD (cutL l n) 0 = n then l else l.take (cutL l n) ++ (n :: l.drop (cutL l n))
  | [] => by simp [putL, cutL]
  | x :: l => by
    rw [putL, cutL]
    by_cases c : x < n
    · rw [if_pos c, if_pos c, putL_cut n l]
      by_cases d : cutL l n < l.length ∧ l.getD (cutL l n) 0 = n
      · rw [if_pos d, if_pos (by simpa using d)]
      · rw [if_neg d, if_neg (by simpa using d)]; simp
    · rw [if_neg c, if_neg c]
      by_cases d : x = n
      · rw [if_pos d, if_pos (by simp [d])]
      · rw [if_neg d, if_neg (by simp [d])]; simp
theorem mem_putL {x n : Int} : ∀ {l : List Int}, x ∈ putL l n ↔ x = n ∨ x ∈ l
  | [] => by simp [putL]
  | y :: l => by
    rw [putL]
    by_cases c : y < n
    · rw [if_pos c]; simp only [List.mem_cons, mem_putL (l := l)]; constructor <;> rintro (h | h | h) <;> simp [h]
    · rw [if_neg c]
      by_cases d : y = n
      · rw [if_pos d]; subst d; simp
      · rw [if_neg d]; simp
theorem putL_sorted {n : Int} : ∀ {l : List Int}, l.Pairwise (· < ·) → (putL l n).Pairwise (· < ·)
  | [], _ => by simp [putL]
  | y :: l, h => by
    rw [List.pairwise_cons] at h
    rw [putL]
    by_cases c : y < n
    · rw [if_pos c, List.pairwise_cons]
      exact ⟨fun x hx => by rcases mem_putL.1 hx with rfl | hx; exact c; exact h.1 x hx, putL_sorted h.2⟩
    · rw [if_neg c]
      by_cases d : y = n
      · rw [if_pos d, List.pairwise_cons]; exact h
      · rw [if_neg d, List.pairwise_cons]
        refine ⟨fun x hx => ?_, List.pairwise_cons.2 h⟩
        rcases List.mem_cons.1 hx with rfl | hx
        · omega
        · have := h.1 x hx; omega
theorem putL_length {n : Int} : ∀ {l : List Int}, l.Pairwise (· < ·) → (putL l n).length = if n ∈ l then l.length else l.length + 1
  | [], _ => by simp [putL]
  | y :: l, h => by
    rw [List.pairwise_cons] at h
    rw [putL]
    by_cases c : y < n
    · rw [if_pos c, List.length_cons, putL_length h.2]
      have : ¬ n = y := by omega
      simp only [List.mem_cons, this, false_or, List.length_cons]
      split <;> rfl
    · rw [if_neg c]
      by_cases d : y = n
      · rw [if_pos d, if_pos (by simp [d])]
      · rw [if_neg d, if_neg]
        · simp
        · rw [List.mem_cons]
          rintro (e | e)
          · exact d e.symm
          · have := h.1 n e; omega
theorem putL_len_le {n : Int} : ∀ (l : List Int), l.length ≤ (putL l n).length ∧ (putL l n).length ≤ l.length + 1
  | [] => by simp [putL]
  | y :: l => by
    rw [putL]
    have := putL_len_le (n := n) l
    split
    · simp; omega
    · split <;> simp
/-- two strictly rising lists with the same members are the same -/
theorem sorted_ext : ∀ {a b : List Int}, a.Pairwise (· < ·) → b.Pairwise (· < ·) → (∀ x, x ∈ a ↔ x ∈ b) → a = b
  | [], [], _, _, _ => rfl
  | [], y :: b, _, _, h => by have := (h y).2 (by simp); simp at this
  | x :: a, [], _, _, h => by have := (h x).1 (by simp); simp at this
  | x :: a, y :: b, ha, hb, h => by
    rw [List.pairwise_cons] at ha hb
    have exy : x = y := by
      have h1 := (h x).1 (by simp)
      have h2 := (h y).2 (by simp)
      rw [List.mem_cons] at h1 h2
      rcases h1 with h1 | h1
      · exact h1
      · rcases h2 with h2 | h2
        · exact h2.symm
        · have := hb.1 x h1; have := ha.1 y h2; omega
    subst exy
    rw [sorted_ext ha.2 hb.2 fun z => ?_]
    have hz := h z
    simp only [List.mem_cons] at hz
    constructor
    · intro m
      rcases hz.1 (.inr m) with e | e
      · subst e; have := ha.1 z m; omega
      · exact e
    · intro m
      rcases hz.2 (.inr m) with e | e
      · subst e; have := hb.1 z m; omega
      · exact e

theorem getD_in {l : List Int} {i : Nat} (h : i < l.length) : l.getD i 0 ∈ l := by
  rw [List.getD_eq_getElem?_getD, List.getElem?_eq_getElem h]
  exact List.getElem_mem _

theorem mem_iff_getD {z : List Int} {p : Int} : p ∈ z ↔ ∃ j, j < z.length ∧ z.getD j 0 = p := by
  rw [List.mem_iff_getElem]
  constructor
  · rintro ⟨j, h, e⟩
    exact ⟨j, h, by rw [List.getD_eq_getElem?_getD, List.getElem?_eq_getElem h]; exact e⟩
  · rintro ⟨j, h, e⟩
    refine ⟨j, h, ?_⟩
    rw [List.getD_eq_getElem?_getD, List.getElem?_eq_getElem h] at e
    exact e

set_option maxHeartbeats 800000 in
theorem l1Has_any (v : Value) (n : Nat) (z : List Int) (p : Int) (w : World) (h : IntRow .i64 1 w v n z) :
    Calls Tryd.prog 37 #[v, .int .i64 p] w fun e w' => e = .returned (.bool (decide (p ∈ z))) ∧ w = w' := by
  obtain ⟨hl, hm, hwf, a, c, rfl, hnc, hcm, hcell⟩ := h
  unfold maxLen at hm
  clear hwf
  go_enter Tryd.func37, Tryd.ntmps37
  go_wp2_with (fail)
  go_loop [9] (fun i => ∃ (k : Nat), k ≤ n ∧ i = .int .i64 (k : Int) ∧ (∀ j, j < k → z.getD j 0 ≠ p)) (fun i => n - (intOf i).toNat)
  case atStart => exact ⟨0, Nat.zero_le _, rfl, fun j hj => absurd hj (by omega)⟩
  case round =>
    obtain ⟨k, hk, rfl, hall⟩ := hrel
    have HA := hid hall
    clear hall
    by_cases hlt : k < n
    · obtain ⟨b, o, rfl, hb, hc⟩ := hcell.resolve_left (by omega)
      obtain ⟨x, hx⟩ : ∃ x, x = z.getD k 0 := ⟨_, rfl⟩
      have s0 : w.cell? ⟨b, o + k, none⟩ = some (.int .i64 x) := by rw [hc _ (by omega), hx]
      have HX := hid hx
      have HL := hid hl
      clear hx hc hcell hl
      cases hxp : (x == p) with
      | true =>
        go_wp2_with (fail)
        go_ret
        refine ⟨ret_bool ?_, rfl⟩
        symm
        rw [decide_eq_true_eq, mem_iff_getD]
        exact ⟨k, by have := HL.out; omega, by rw [← HX.out]; simpa using hxp⟩
      | false =>
        go_wp2_with (fail)
        go_round
        case rel =>
          refine ⟨k + 1, by omega, by go_num, fun j hj => ?_⟩
          by_cases e : j = k
          · subst e
            rw [← HX.out]
            simpa using hxp
          · exact HA.out j (by omega)
        case measure => simp [intOf]; omega
    · obtain rfl : k = n := by omega
      have HL := hid hl
      clear hcell hl
      go_wp2_with (fail)
      go_ret
      refine ⟨ret_bool ?_, rfl⟩
      symm
      rw [decide_eq_false_iff_not, mem_iff_getD]
      rintro ⟨j, hj, e⟩
      exact HA.out j (by have := HL.out; omega) e

theorem IntRow.take {kd : IntKind} {w : World} {a : Option Addr} {n c : Nat} {z : List Int} (h : IntRow kd 1 w (.slice a n c) n z) {k : Nat} (hk : k ≤ n) : IntRow kd 1 w (.slice a k c) k (z.take k) := by
  obtain ⟨h1, h2, h3, a', c', h4, h5, h6, h7⟩ := h
  injection h4 with e1 e2 e3
  subst e1
  subst e3
  refine ⟨by rw [List.length_take]; omega, by omega, fun x hx => h3 x (List.mem_of_mem_take hx), a, c, rfl, by omega, h6, ?_⟩
  by_cases h0 : k = 0
  · exact .inl h0
  · obtain ⟨b, o, ha, hb, hc⟩ := h7.resolve_left (by omega)
    refine .inr ⟨b, o, ha, hb, fun j hj => ?_⟩
    rw [hc j (by omega), List.getD_eq_getElem?_getD, List.getD_eq_getElem?_getD, List.getElem?_take, if_pos (by omega)]
theorem IntRow.drop {kd : IntKind} {w : World} {b o n c : Nat} {z : List Int} (h : IntRow kd 1 w (.slice (some ⟨b, o, none⟩) n c) n z) {k : Nat} (hk : k ≤ n) : IntRow kd 1 w (.slice (some ⟨b, o + k, none⟩) (n - k) (c - k)) (n - k) (z.drop k) := by
  obtain ⟨h1, h2, h3, a', c', h4, h5, h6, h7⟩ := h
  injection h4 with e1 e2 e3
  subst e1
  subst e3
  refine ⟨by rw [List.length_drop]; omega, by omega, fun x hx => h3 x (List.mem_of_mem_drop hx), _, c - k, rfl, by omega, by omega, ?_⟩
  by_cases h0 : n - k = 0
  · exact .inl h0
  · obtain ⟨b', o', ha, hb, hc⟩ := h7.resolve_left (by omega)
    simp only [Option.some.injEq, Addr.mk.injEq, and_true] at ha
    obtain ⟨rfl, rfl⟩ := ha
    refine .inr ⟨b, o + k, rfl, hb, fun j hj => ?_⟩
    rw [show o + k + j = o + (k + j) by omega, hc (k + j) (by omega), List.getD_eq_getElem?_getD, List.getD_eq_getElem?_getD, List.getElem?_drop]
theorem IntRow.none_ {kd : IntKind} (w : World) (a : Option Addr) (c : Nat) (hc : c ≤ maxLen) : IntRow kd 1 w (.slice a 0 c) 0 [] :=
  ⟨by simp, Nat.zero_le _, by simp, a, c, rfl, Nat.zero_le _, hc, .inl rfl⟩

theorem Ext.of_own {a w w' : World} {g o n c : Nat} (h : Ext a w) (gr : w.grownBy w' (Value.slice (some ⟨g, o, none⟩) n c).ownBlock) (hg : a.heap.size ≤ g) : Ext a w' :=
  h.of_grownAt gr (fun k hk => by
    have : g = k := by simpa [Value.ownBlock] using hk
    omega)

/-- 'append(out, xs...)', out a row of the call's own, xs any slice of ints -/
theorem wpList_append_src {w : World} {ops : Array Oper} {rest : List Oper} {o : Oper} {a : Act} {Q : Exit → Act → World → Prop} (hgd : o.guard = none) (s x : Operand) (t : TypeId)
    (ho : o.op = .call { callee := .builtin .append, args := #[s, x], argTypes := #[t, t] })
    (base : Nat) (e : TypeId) (i : TypeInfo) (z : Value) (ht : Tryd.prog.underlying t = some (.slice e)) (hi : Tryd.prog.info? e = some i) (hz : i.zero = some z)
    (hsize : i.size = 1) (hby : i.bytes = 8) (hzs : z.cells.size = 1)
    (v : Value) (n : Nat) (xs : List Value) (hs : a.eval s = v) (hown : w.ownsRow base e 1 v n xs)
    (vx : Value) (m : Nat) (zs : List Int) (hx : a.eval x = vx) (hr : IntRow .i64 1 w vx m zs)
    (h63 : n + m ≤ 1048576 * 4) (hbase : base ≤ w.heap.size)
    (h : ∀ v' w', w'.ownsRow base e 1 v' (n + m) (xs ++ zs.map (Value.int .i64)) → w.grownBy w' v.ownBlock → wpList Tryd.prog ops Q rest (a.put o.dst v') w') : wpList Tryd.prog ops Q (o :: rest) a w := by
  obtain ⟨h1, h2, h3, ad, c, rfl, h5, h6, h7⟩ := hr
  cases ad with
  | none =>
    have hm : m = 0 := by
      rcases h7 with h7 | ⟨b, o, ha, _⟩
      · exact h7
      · cases ha
    subst hm
    obtain rfl : zs = [] := List.eq_nil_of_length_eq_zero (by simpa using h1)
    refine wpList_plain hgd fun K hK => ?_
    have hrun : (Builtin.append_ #[t, t] o.type #[v, .slice none 0 c]).run Tryd.prog w = .ok v w := by
      rcases hown.2 with ⟨rfl, rfl⟩ | ⟨g, cap, cur, rfl, _, _, hnc, _⟩
      · simp [Builtin.append_, run_underlying ht, sizeOf, typeInfo, hi, Builtin.lenOf, Builtin.firstCells]
      · simp [Builtin.append_, run_underlying ht, sizeOf, typeInfo, hi, Builtin.lenOf, Builtin.firstCells, hnc, storeCells]
    unfold Oper.wp
    simp [execOp, ho, resolve, invoke, builtin, hs, hx, hrun, Result.andThen]
    exact hK _ _ (by simpa using h v w (by simpa using hown) (World.grownBy.refl _ _))
  | some ad =>
    refine wpList_append_own w hgd s x t ho base e i z 1 8 ht hi hz hsize hby hzs (by omega) v n xs hs hown ad m c (zs.map (Value.int .i64)) hx (by simpa using h1) ?_ (ints_oneCell _ _) (by unfold maxLen; omega) (by omega) hbase (fun v' w' a1 a2 _ => h v' w' a1 a2)
    intro j u hu
    have hj : j < zs.length := by
      have := (List.getElem?_eq_some_iff.1 hu).1
      simpa using this
    obtain ⟨b, o', ha, hb, hc⟩ := h7.resolve_left (by omega)
    simp only [Option.some.injEq] at ha
    subst ha
    rw [Addr.add_lit, hc j (by omega)]
    rw [map_getD hj] at hu
    exact hu

set_option maxRecDepth 100000 in
set_option maxHeartbeats 4000000 in
theorem l1Put_any (base : Nat) (v : Value) (n : Nat) (z : List Int) (p : Int) (w : World) (h : w.ownsRow base 3 1 v n (z.map (Value.int .i64))) (hw : ∀ x ∈ z, (Lit.int .i64 x).wf = true) (hn : n ≤ 1000) (hbase : base ≤ w.heap.size) :
    Calls Tryd.prog 56 #[v, .int .i64 p] w fun e w' => ∃ v', e = .returned v' ∧ w'.ownsRow base 3 1 v' (putL z p).length ((putL z p).map (Value.int .i64)) ∧ Ext w w' := by
  obtain ⟨i0, hi, hz0, hz1, hz2⟩ := info_parts info_Int
  have hr := row_ints h (by unfold maxLen; omega) hw
  have hlz : z.length = n := by have := h.1; simpa using this
  have HO1 := hid (World.ownsRow_lit (base := w.heap.size) (e := 3) (size := 1) w #[] 0 (Nat.le_refl _) (Nat.zero_le _) rfl)
  have HE1 := hid ((Ext.refl w).alloc (.cells #[] 3))
  have HH := hid h
  rcases h.2 with ⟨rfl, rfl⟩ | ⟨g, c, cur, rfl, hg1, hg2, hnc, hcm, hx1, hx2⟩
  · obtain rfl : z = [] := List.eq_nil_of_length_eq_zero hlz
    have HV := hid (show putL [] p = ([] : List Int).take 0 ++ (p :: ([] : List Int).drop 0) by simp [putL])
    have HL := hid hlz
    have HR := hid hr
    clear hr hw h hlz
    go_enter Tryd.func56, Tryd.ntmps56
    go_wp2_with (fail)
    refine wp_loop_rounds 1 ?_
    rw [rounds_succ]
    go_wp2_with (first
      | (at_builtin; refine wpList_append_src rfl (.tmp 34) (.tmp 37) 31 rfl w.heap.size 3 i0 _ Tryd.underlying31 hi hz0 hz1 hz2 rfl _ 0 [] rfl HO1.out _ 0 _ rfl ((HR.out.take (Nat.le_refl 0)).ext (by repeat (first | exact Ext.refl _ | assumption | refine Ext.alloc ?_ _ | refine Ext.drew ?_ | refine Ext.drewN ?_ _ | refine Ext.setCell ?_ (by first | exact Nat.le_refl _ | (simp; done) | (dsimp only; omega) | (simp only [World.size_alloc, World.size_setCell]; omega)) _ | refine Ext.trans ?_ (by assumption)))) (by omega) (by simp) ?_; intro v1 w1 hr1 hg1; have hE1 : Ext w w1 := HE1.out.of_own hg1 (Nat.le_refl _); have hs1 := hE1.size)
      | (at_builtin; refine wpList_append_own _ rfl (.tmp 39) (.tmp 41) 31 rfl w.heap.size 3 i0 _ _ _ Tryd.underlying31 hi hz0 hz1 hz2 rfl (by decide) _ _ _ rfl (hr1.alloc _) _ 1 1 [.int .i64 p] rfl rfl (cell_new1 _ _ _ _ (by simp)) (fun x hx => by simp at hx; subst hx; rfl) (by unfold maxLen; omega) (by omega) (by simp; omega) ?_; intro v2 w2 hr2 hg2 hnil2; have hE2 : Ext w w2 := ext_append (hE1.alloc _) (hr1.alloc _) (Nat.le_refl _) hg2; have hs2 := hE2.size)
      | (at_builtin; refine wpList_append_src rfl (.tmp 43) (.tmp 46) 31 rfl w.heap.size 3 i0 _ Tryd.underlying31 hi hz0 hz1 hz2 rfl _ _ _ rfl hr2 _ (0 - 0) _ rfl (HR.out.ext hE2) (by omega) hs2 ?_; intro v3 w3 hr3 hg3; have hE3 : Ext w w3 := ext_append hE2 hr2 (Nat.le_refl _) hg3))
    go_ret
    refine ⟨_, rfl, ?_, hE3⟩
    rw [HV.out]
    rw [show (([] : List Int).take 0 ++ p :: ([] : List Int).drop 0).length = 0 + 0 + 1 + (0 - 0) by first | (simp [HL.out]; done) | (simp [HL.out]; omega)]
    rw [show (([] : List Int).take 0 ++ p :: ([] : List Int).drop 0).map (Value.int .i64) = [] ++ (([] : List Int).take 0).map (Value.int .i64) ++ [.int .i64 p] ++ (([] : List Int).drop 0).map (Value.int .i64) by simp]
    exact row_mono hr3 hbase
  · have hgs : g < w.heap.size := (h.lt _ rfl).2
    have hcell : ∀ k (hk : k < n), w.cell? ⟨g, k, none⟩ = some (.int .i64 (z.getD k 0)) := fun k hk => by
      rw [h.cellAt k (by omega), map_getD (by omega)]
    have HC := hid hcell
    have HR := hid hr
    have HL := hid hlz
    clear hcell hr hw h hlz hg2 hx1 hx2
    have hcm2 : c ≤ 9223372036854775807 := by unfold maxLen at hcm; omega
    go_enter Tryd.func56, Tryd.ntmps56
    go_wp2_with (fail)
    go_loop [5] (fun i => ∃ (k : Nat), k ≤ n ∧ i = .int .i64 (k : Int) ∧ (∀ j, j < k → z.getD j 0 < p)) (fun i => n - (intOf i).toNat)
    case atStart => exact ⟨0, Nat.zero_le _, rfl, fun j hj => absurd hj (by omega)⟩
    case round =>
      obtain ⟨k, hk, rfl, hall⟩ := hrel
      have HA := hid hall
      clear hall
      have hstep : Hid (∀ (hc : cutL z p = k), putL z p = if k < n ∧ z.getD k 0 = p then z else z.take k ++ (p :: z.drop k)) := hid (fun hc => by rw [putL_cut, hc, HL.out])
      have HR1 := hid (HR.out.take hk)
      by_cases hlt : k < n
      · obtain ⟨x, hx⟩ : ∃ x, x = z.getD k 0 := ⟨_, rfl⟩
        have s0 := HC.out k hlt
        rw [← hx] at s0
        have HX := hid hx
        clear hx
        have t1 : decide (k < n) = true := decide_eq_true hlt
        by_cases hxp : x < p
        · have t2 : decide (x < p) = true := decide_eq_true hxp
          go_wp2_with (fail)
          go_round
          case rel =>
            refine ⟨k + 1, by omega, by go_num, fun j hj => ?_⟩
            by_cases e : j = k
            · subst e
              rw [← HX.out]
              exact hxp
            · exact HA.out j (by omega)
          case measure => simp [intOf]; omega
        · have t2 : decide (x < p) = false := decide_eq_false hxp
          have HCUT := hid (cutL_eq p z k (by have := HL.out; omega) HA.out (fun _ => by rw [← HX.out]; exact hxp))
          cases hxe : (x == p) with
          | true =>
            have HV := hid (show putL z p = z by rw [hstep.out HCUT.out, if_pos ⟨hlt, by rw [← HX.out]; simpa using hxe⟩])
            go_wp2_with (fail)
            go_ret
            rw [HV.out, HL.out]
            exact ⟨_, rfl, HH.out, Ext.refl _⟩
          | false =>
            have HV := hid (show putL z p = z.take k ++ (p :: z.drop k) by rw [hstep.out HCUT.out, if_neg (fun hc => by rw [← HX.out] at hc; simp [hc.2] at hxe)])
            have hck : ¬ c = k := by omega
            have HR2 := hid (show IntRow .i64 1 w (.slice (some ⟨g, k, none⟩) (n - k) (c - k)) (n - k) (z.drop k) by have := HR.out.drop hk; simpa using this)
            go_wp2_with (first
              | (at_builtin; refine wpList_append_src rfl (.tmp 34) (.tmp 37) 31 rfl w.heap.size 3 i0 _ Tryd.underlying31 hi hz0 hz1 hz2 rfl _ 0 [] rfl HO1.out _ k _ rfl (HR1.out.ext (by repeat (first | exact Ext.refl _ | assumption | refine Ext.alloc ?_ _ | refine Ext.drew ?_ | refine Ext.drewN ?_ _ | refine Ext.setCell ?_ (by first | exact Nat.le_refl _ | (simp; done) | (dsimp only; omega) | (simp only [World.size_alloc, World.size_setCell]; omega)) _ | refine Ext.trans ?_ (by assumption)))) (by omega) (by simp) ?_; intro v1 w1 hr1 hg1; have hE1 : Ext w w1 := HE1.out.of_own hg1 (Nat.le_refl _); have hs1 := hE1.size)
              | (at_builtin; refine wpList_append_own _ rfl (.tmp 39) (.tmp 41) 31 rfl w.heap.size 3 i0 _ _ _ Tryd.underlying31 hi hz0 hz1 hz2 rfl (by decide) _ _ _ rfl (hr1.alloc _) _ 1 1 [.int .i64 p] rfl rfl (cell_new1 _ _ _ _ (by simp)) (fun x hx => by simp at hx; subst hx; rfl) (by unfold maxLen; omega) (by omega) (by simp; omega) ?_; intro v2 w2 hr2 hg2 hnil2; have hE2 : Ext w w2 := ext_append (hE1.alloc _) (hr1.alloc _) (Nat.le_refl _) hg2; have hs2 := hE2.size)
              | (at_builtin; refine wpList_append_src rfl (.tmp 43) (.tmp 46) 31 rfl w.heap.size 3 i0 _ Tryd.underlying31 hi hz0 hz1 hz2 rfl _ _ _ rfl hr2 _ (n - k) _ rfl (HR2.out.ext hE2) (by omega) hs2 ?_; intro v3 w3 hr3 hg3; have hE3 : Ext w w3 := ext_append hE2 hr2 (Nat.le_refl _) hg3))
            go_ret
            refine ⟨_, rfl, ?_, hE3⟩
            rw [HV.out]
            rw [show (z.take k ++ p :: z.drop k).length = 0 + k + 1 + (n - k) by first | (simp [HL.out]; done) | (simp [HL.out]; omega)]
            rw [show (z.take k ++ p :: z.drop k).map (Value.int .i64) = [] ++ (z.take k).map (Value.int .i64) ++ [.int .i64 p] ++ (z.drop k).map (Value.int .i64) by simp]
            exact row_mono hr3 hbase
      · obtain rfl : k = n := by omega
        have t1 : decide (k < k) = false := by simp
        have HCUT := hid (cutL_eq p z k (by have := HL.out; omega) HA.out (fun hc => absurd hc (by have := HL.out; omega)))
        have HV := hid (show putL z p = z.take k ++ (p :: z.drop k) by rw [hstep.out HCUT.out, if_neg (fun hc => by omega)])
        have HD := hid (show z.drop k = [] from List.drop_eq_nil_of_le (by have := HL.out; omega))
        by_cases hck : c = k
        · have HR2 := hid (show IntRow .i64 1 w (.slice (some ⟨g, 0, none⟩) 0 0) 0 [] from IntRow.none_ _ _ _ (Nat.zero_le _))
          have hckb : (c == k) = true := by simpa using hck
          subst hck
          go_wp2_with (first
            | (at_builtin; refine wpList_append_src rfl (.tmp 34) (.tmp 37) 31 rfl w.heap.size 3 i0 _ Tryd.underlying31 hi hz0 hz1 hz2 rfl _ 0 [] rfl HO1.out _ c _ rfl (HR1.out.ext (by repeat (first | exact Ext.refl _ | assumption | refine Ext.alloc ?_ _ | refine Ext.drew ?_ | refine Ext.drewN ?_ _ | refine Ext.setCell ?_ (by first | exact Nat.le_refl _ | (simp; done) | (dsimp only; omega) | (simp only [World.size_alloc, World.size_setCell]; omega)) _ | refine Ext.trans ?_ (by assumption)))) (by omega) (by simp) ?_; intro v1 w1 hr1 hg1; have hE1 : Ext w w1 := HE1.out.of_own hg1 (Nat.le_refl _); have hs1 := hE1.size)
            | (at_builtin; refine wpList_append_own _ rfl (.tmp 39) (.tmp 41) 31 rfl w.heap.size 3 i0 _ _ _ Tryd.underlying31 hi hz0 hz1 hz2 rfl (by decide) _ _ _ rfl (hr1.alloc _) _ 1 1 [.int .i64 p] rfl rfl (cell_new1 _ _ _ _ (by simp)) (fun x hx => by simp at hx; subst hx; rfl) (by unfold maxLen; omega) (by omega) (by simp; omega) ?_; intro v2 w2 hr2 hg2 hnil2; have hE2 : Ext w w2 := ext_append (hE1.alloc _) (hr1.alloc _) (Nat.le_refl _) hg2; have hs2 := hE2.size)
            | (at_builtin; refine wpList_append_src rfl (.tmp 43) (.tmp 46) 31 rfl w.heap.size 3 i0 _ Tryd.underlying31 hi hz0 hz1 hz2 rfl _ _ _ rfl hr2 _ 0 _ rfl (HR2.out.ext hE2) (by omega) hs2 ?_; intro v3 w3 hr3 hg3; have hE3 : Ext w w3 := ext_append hE2 hr2 (Nat.le_refl _) hg3))
          go_ret
          refine ⟨_, rfl, ?_, hE3⟩
          rw [HV.out]
          rw [HD.out, show (z.take c ++ [p]).length = 0 + c + 1 + 0 by simp [HL.out]]
          rw [show (z.take c ++ [p]).map (Value.int .i64) = [] ++ (z.take c).map (Value.int .i64) ++ [.int .i64 p] ++ ([] : List Int).map (Value.int .i64) by simp]
          exact row_mono hr3 hbase
        · have HR2 := hid (show IntRow .i64 1 w (.slice (some ⟨g, k, none⟩) 0 (c - k)) 0 [] from IntRow.none_ _ _ _ (by omega))
          go_wp2_with (first
            | (at_builtin; refine wpList_append_src rfl (.tmp 34) (.tmp 37) 31 rfl w.heap.size 3 i0 _ Tryd.underlying31 hi hz0 hz1 hz2 rfl _ 0 [] rfl HO1.out _ k _ rfl (HR1.out.ext (by repeat (first | exact Ext.refl _ | assumption | refine Ext.alloc ?_ _ | refine Ext.drew ?_ | refine Ext.drewN ?_ _ | refine Ext.setCell ?_ (by first | exact Nat.le_refl _ | (simp; done) | (dsimp only; omega) | (simp only [World.size_alloc, World.size_setCell]; omega)) _ | refine Ext.trans ?_ (by assumption)))) (by omega) (by simp) ?_; intro v1 w1 hr1 hg1; have hE1 : Ext w w1 := HE1.out.of_own hg1 (Nat.le_refl _); have hs1 := hE1.size)
            | (at_builtin; refine wpList_append_own _ rfl (.tmp 39) (.tmp 41) 31 rfl w.heap.size 3 i0 _ _ _ Tryd.underlying31 hi hz0 hz1 hz2 rfl (by decide) _ _ _ rfl (hr1.alloc _) _ 1 1 [.int .i64 p] rfl rfl (cell_new1 _ _ _ _ (by simp)) (fun x hx => by simp at hx; subst hx; rfl) (by unfold maxLen; omega) (by omega) (by simp; omega) ?_; intro v2 w2 hr2 hg2 hnil2; have hE2 : Ext w w2 := ext_append (hE1.alloc _) (hr1.alloc _) (Nat.le_refl _) hg2; have hs2 := hE2.size)
            | (at_builtin; refine wpList_append_src rfl (.tmp 43) (.tmp 46) 31 rfl w.heap.size 3 i0 _ Tryd.underlying31 hi hz0 hz1 hz2 rfl _ _ _ rfl hr2 _ 0 _ rfl (HR2.out.ext hE2) (by omega) hs2 ?_; intro v3 w3 hr3 hg3; have hE3 : Ext w w3 := ext_append hE2 hr2 (Nat.le_refl _) hg3))
          go_ret
          refine ⟨_, rfl, ?_, hE3⟩
          rw [HV.out]
          rw [HD.out, show (z.take k ++ [p]).length = 0 + k + 1 + 0 by simp [HL.out]]
          rw [show (z.take k ++ [p]).map (Value.int .i64) = [] ++ (z.take k).map (Value.int .i64) ++ [.int .i64 p] ++ ([] : List Int).map (Value.int .i64) by simp]
          exact row_mono hr3 hbase

end Go.Proofs.YtedkffdkhnfoiaaDoor
