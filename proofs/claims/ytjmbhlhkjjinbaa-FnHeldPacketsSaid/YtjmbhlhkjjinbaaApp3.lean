/- Appending rows of structs of three integers. No condition. -/
import Derived.Test.YtjmbhlhkjjinbaaRow
import Derived.Maps.RangeWalk
import Derived.Maps.AppendAt
import Derived.Deep.AppendLies
import Derived.Deep.RegionHeld3
namespace Go.Proofs.Ytjmbhlhkjjinbaa
open Go.RowKit
set_option linter.unusedSimpArgs false
set_option linter.unusedVariables false

theorem ints_one3 (zs : List Int) : ∀ u ∈ zs.map (Value.int .i64), u.oneCell' = true := by
  intro u hu
  simp only [List.mem_map] at hu
  obtain ⟨z, _, rfl⟩ := hu
  rfl
/-- 'append(out, xs...)', out a row of the call's own of structs of three integers, xs any slice of them -/
theorem wp_src3 {w : World} {o : Oper} {a : Act} {K : Act → World → Prop} {Q : Exit → Act → World → Prop} (s x : Operand) (t : TypeId)
    (ho : o.op = .call { callee := .builtin .append, args := #[s, x], argTypes := #[t, t] })
    (base : Nat) (e : TypeId) (i : TypeInfo) (z : Value) (ht : Try.prog.underlying t = some (.slice e)) (hi : Try.prog.info? e = some i) (hz : i.zero = some z)
    (hsize : i.size = 3) (hby : i.bytes = 24) (hzs : z.cells.size = 3)
    (v : Value) (n : Nat) (xs : List Value) (hs : a.eval s = v) (hown : w.ownsRow base e 3 v n xs)
    (vx : Value) (m : Nat) (zs : List Int) (hx : a.eval x = vx) (hr : IntRow .i64 3 w vx m zs)
    (h63 : n + m ≤ 1048576 * 4) (hbase : base ≤ w.heap.size)
    (h : ∀ v' w', w'.ownsRow base e 3 v' (n + m) (xs ++ zs.map (Value.int .i64)) → w.grownBy w' v.ownBlock → K (a.put o.dst v') w') : Oper.wp Try.prog o a w K Q := by
  obtain ⟨h1, h2, h3, ad, c, rfl, h5, h6, h7⟩ := hr
  cases ad with
  | none =>
    have hm : m = 0 := by
      rcases h7 with h7 | ⟨b, o, ha, _⟩
      · exact h7
      · cases ha
    subst hm
    obtain rfl : zs = [] := List.eq_nil_of_length_eq_zero (by simpa using h1)
    have hrun : (Builtin.append_ #[t, t] o.type #[v, .slice none 0 c]).run Try.prog w = .ok v w := by
      rcases hown.2 with ⟨rfl, rfl⟩ | ⟨g, cap, cur, rfl, _, _, hnc, _⟩
      · simp [Builtin.append_, run_underlying ht, sizeOf, typeInfo, hi, Builtin.lenOf, Builtin.firstCells]
      · simp [Builtin.append_, run_underlying ht, sizeOf, typeInfo, hi, Builtin.lenOf, Builtin.firstCells, hnc, storeCells]
    unfold Oper.wp
    simp [execOp, ho, resolve, invoke, builtin, hs, hx, hrun, Result.andThen]
    exact h v w (by simpa using hown) (World.grownBy.refl _ _)
  | some ad =>
    refine wp_append_own w s x t ho base e i z 3 24 ht hi hz hsize hby hzs (by omega) v n xs hs hown ad m c (zs.map (Value.int .i64)) hx (by simpa using h1) ?_ (ints_one3 _) (by unfold maxLen; omega) (by omega) hbase (fun v' w' a1 a2 _ => h v' w' a1 a2)
    intro j u hu
    have hj : j < zs.length := by
      have := (List.getElem?_eq_some_iff.1 hu).1
      simpa using this
    by_cases h0 : m = 0
    · rw [h0] at h1
      omega
    obtain ⟨b, o', ha, hb, hc⟩ := h7.resolve_left h0
    simp only [Option.some.injEq] at ha
    subst ha
    rw [Addr.add_lit, hc j (by omega)]
    rw [map_getD hj] at hu
    exact hu
theorem step_src3 {w : World} {ops : Array Oper} {o : Oper} {a : Act} {K : Act → World → Prop} {Q : Exit → Act → World → Prop} {E : Prop} (hgd : o.guard = none) (s x : Operand) (t : TypeId)
    (ho : o.op = .call { callee := .builtin .append, args := #[s, x], argTypes := #[t, t] })
    (base : Nat) (e : TypeId) (i : TypeInfo) (z : Value) (ht : Try.prog.underlying t = some (.slice e)) (hi : Try.prog.info? e = some i) (hz : i.zero = some z)
    (hsize : i.size = 3) (hby : i.bytes = 24) (hzs : z.cells.size = 3)
    (v : Value) (n : Nat) (xs : List Value) (hs : a.eval s = v) (hown : w.ownsRow base e 3 v n xs)
    (vx : Value) (m : Nat) (zs : List Int) (hx : a.eval x = vx) (hr : IntRow .i64 3 w vx m zs)
    (h63 : n + m ≤ 1048576 * 4) (hbase : base ≤ w.heap.size)
    (h : ∀ v' w', w'.ownsRow base e 3 v' (n + m) (xs ++ zs.map (Value.int .i64)) → w.grownBy w' v.ownBlock → K (a.put o.dst v') w') :
    if Region.wanted o (yielded ops a.tmps) = true then Oper.wp Try.prog o a w K Q else E := by
  have hw : Region.wanted o (yielded ops a.tmps) = true := by simp [Region.wanted, hgd]
  rw [if_pos hw]
  exact wp_src3 s x t ho base e i z ht hi hz hsize hby hzs v n xs hs hown vx m zs hx hr h63 hbase h
theorem wpList_src3 {w : World} {ops : Array Oper} {rest : List Oper} {o : Oper} {a : Act} {Q : Exit → Act → World → Prop} (hgd : o.guard = none) (s x : Operand) (t : TypeId)
    (ho : o.op = .call { callee := .builtin .append, args := #[s, x], argTypes := #[t, t] })
    (base : Nat) (e : TypeId) (i : TypeInfo) (z : Value) (ht : Try.prog.underlying t = some (.slice e)) (hi : Try.prog.info? e = some i) (hz : i.zero = some z)
    (hsize : i.size = 3) (hby : i.bytes = 24) (hzs : z.cells.size = 3)
    (v : Value) (n : Nat) (xs : List Value) (hs : a.eval s = v) (hown : w.ownsRow base e 3 v n xs)
    (vx : Value) (m : Nat) (zs : List Int) (hx : a.eval x = vx) (hr : IntRow .i64 3 w vx m zs)
    (h63 : n + m ≤ 1048576 * 4) (hbase : base ≤ w.heap.size)
    (h : ∀ v' w', w'.ownsRow base e 3 v' (n + m) (xs ++ zs.map (Value.int .i64)) → w.grownBy w' v.ownBlock → wpList Try.prog ops Q rest (a.put o.dst v') w') : wpList Try.prog ops Q (o :: rest) a w :=
  wpList_plain hgd fun _ hK => wp_src3 s x t ho base e i z ht hi hz hsize hby hzs v n xs hs hown vx m zs hx hr h63 hbase fun v' w' h2 h3 => hK _ _ (h v' w' h2 h3)

theorem row_empty3 (w : World) (t : TypeId) : (w.alloc (.cells #[] t)).ownsRow w.heap.size t 3 (.slice (some ⟨w.heap.size, 0, none⟩) 0 0) 0 [] :=
  ⟨rfl, .inr ⟨w.heap.size, 0, #[], rfl, Nat.le_refl _, heap_alloc_new w _, Nat.le_refl _, Nat.zero_le _, rfl, rfl⟩⟩
theorem lit3_row (w : World) (x0 x1 x2 : Int) (t : TypeId) (h0 : (Lit.int .i64 x0).wf = true) (h1 : (Lit.int .i64 x1).wf = true) (h2 : (Lit.int .i64 x2).wf = true) : IntRow .i64 3 (w.alloc (.cells #[.int .i64 x0, .int .i64 x1, .int .i64 x2] t)) (.slice (some ⟨w.heap.size, 0, none⟩) 1 1) 1 [x0, x1, x2] := by
  refine ⟨rfl, by unfold maxLen; omega, fun z hz => ?_, some ⟨w.heap.size, 0, none⟩, 1, rfl, Nat.le_refl _, by unfold maxLen; omega, .inr ⟨w.heap.size, 0, rfl, by simp, fun j hj => ?_⟩⟩
  · simp only [List.mem_cons, List.not_mem_nil, or_false] at hz
    rcases hz with rfl | rfl | rfl
    · exact h0
    · exact h1
    · exact h2
  · match j, hj with
    | 0, _ => simp [go_sem]
    | 1, _ => simp [go_sem]
    | 2, _ => simp [go_sem]
    | j + 3, hj => omega
/-- a slice whose block is none of those that have turned reads as before -/
theorem introw_far3 {k : Nat} {w w' : World} {b o n c : Nat} {z : List Int} {r : Option Nat} (h : IntRow .i64 k w (.slice (some ⟨b, o, none⟩) n c) n z) (g : w.grownBy w' r) (hr : r ≠ some b) : IntRow .i64 k w' (.slice (some ⟨b, o, none⟩) n c) n z := by
  obtain ⟨h1, h2, h3, a, c', h4, h5, h6, h7⟩ := h
  refine ⟨h1, h2, h3, a, c', h4, h5, h6, ?_⟩
  rcases h7 with h7 | ⟨b', o', ha, hb, hc⟩
  · exact .inl h7
  · injection h4 with e1 _ _
    rw [ha] at e1
    injection e1 with e1
    injection e1 with e2 e3
    subst e2
    subst e3
    exact .inr ⟨b, o, ha, Nat.lt_of_lt_of_le hb g.size, fun j hj => World.grownBy.cell g (hc j hj) (fun e => hr e.symm)⟩
theorem take3 {w : World} {a : Option Addr} {n c k : Nat} {z : List Int} (h : IntRow .i64 3 w (.slice a n c) n z) (hk : k ≤ n) : IntRow .i64 3 w (.slice a k c) k (z.take (k * 3)) := by
  obtain ⟨h1, h2, h3, a', c', h4, h5, h6, h7⟩ := h
  injection h4 with e1 e2 e3
  subst e1
  subst e3
  refine ⟨by rw [List.length_take]; omega, by omega, fun x hx => h3 x (List.mem_of_mem_take hx), a, c, rfl, by omega, h6, ?_⟩
  by_cases h0 : k = 0
  · exact .inl h0
  · obtain ⟨b, o, ha, hb, hc⟩ := h7.resolve_left (by omega)
    exact .inr ⟨b, o, ha, hb, fun j hj => by rw [hc j (by omega), List.getD_eq_getElem?_getD, List.getD_eq_getElem?_getD, List.getElem?_take, if_pos hj]⟩
theorem drop3 {w : World} {b o n c k : Nat} {z : List Int} (h : IntRow .i64 3 w (.slice (some ⟨b, o, none⟩) n c) n z) (hk : k ≤ n) : IntRow .i64 3 w (.slice (some ⟨b, o + k * 3, none⟩) (n - k) (c - k)) (n - k) (z.drop (k * 3)) := by
  obtain ⟨h1, h2, h3, a', c', h4, h5, h6, h7⟩ := h
  injection h4 with e1 e2 e3
  subst e1
  subst e3
  refine ⟨by rw [List.length_drop]; omega, by omega, fun x hx => h3 x (List.mem_of_mem_drop hx), _, c - k, rfl, by omega, by omega, ?_⟩
  by_cases h0 : n - k = 0
  · exact .inl h0
  · obtain ⟨b', o', ha, hb, hc⟩ := h7.resolve_left (by omega)
    injection ha with ha
    injection ha with e2 e3
    subst e2
    subst e3
    refine .inr ⟨b, o + k * 3, rfl, hb, fun j hj => ?_⟩
    rw [show o + k * 3 + j = o + (k * 3 + j) by omega, hc _ (by omega), List.getD_eq_getElem?_getD, List.getD_eq_getElem?_getD, List.getElem?_drop]
theorem none3 (w : World) (a : Option Addr) (c : Nat) (hc : c ≤ maxLen) : IntRow .i64 3 w (.slice a 0 c) 0 [] :=
  ⟨by simp, Nat.zero_le _, by simp, a, c, rfl, Nat.zero_le _, hc, .inl rfl⟩
end Go.Proofs.Ytjmbhlhkjjinbaa
