/- Rows of packets that the call itself makes; contents drawn; packets owned and split. Condition: the code's length. -/
import Derived.Test.YtjmbhlhkjjinbaaCurC
import Derived.Test.YtjmbhlhkjjinbaaPk
import Derived.Maps.AppendAt
import Derived.Deep.AppendLies
import Derived.Handy
namespace Go.Proofs.Ytjmbhlhkjjinbaa
open Go.RowKit
set_option linter.unusedSimpArgs false
set_option linter.unusedVariables false

/-- a slice of elements of K cells, that reads as ys -/
def RowR (w : World) (K : Nat) (vx : Value) (m : Nat) (ys : List Value) : Prop := ys.length = m * K ∧ ∃ a c, vx = .slice a m c ∧ m ≤ c ∧ c ≤ maxLen ∧ (m = 0 ∨ ∃ b o, a = some ⟨b, o, none⟩ ∧ b < w.heap.size ∧ ∀ j u, ys[j]? = some u → w.cell? ⟨b, o + j, none⟩ = some u)
theorem RowR.ext {w w' : World} {K m : Nat} {vx : Value} {ys : List Value} (h : RowR w K vx m ys) (e : Ext w w') : RowR w' K vx m ys := by
  obtain ⟨h1, a, c, h2, h3, h4, h5⟩ := h
  refine ⟨h1, a, c, h2, h3, h4, ?_⟩
  rcases h5 with h5 | ⟨b, o, ha, hb, hc⟩
  · exact .inl h5
  · exact .inr ⟨b, o, ha, Nat.lt_of_lt_of_le hb e.size, fun j u hu => by rw [(Ext.cells e).1 _ _ hb]; exact hc j u hu⟩
theorem rowR_own {w : World} {K base m : Nat} {e : TypeId} {v : Value} {ys : List Value} (h : w.ownsRow base e K v m ys) : RowR w K v m ys := by
  obtain ⟨a, c, rfl, h1, h2, h3⟩ := row_shape h
  refine ⟨h.1, a, c, rfl, h1, h2, ?_⟩
  rcases h3 with h3 | ⟨g, rfl, _, hg⟩
  · exact .inl h3
  · refine .inr ⟨g, 0, rfl, hg, fun j u hu => ?_⟩
    have hj := (List.getElem?_eq_some_iff.1 hu).1
    rw [Nat.zero_add, h.cellAt j (by rw [← h.1]; exact hj), hu]
theorem rowR_ints {w : World} {v : Value} {n : Nat} {z : List Int} (h : IntRow .i64 1 w v n z) : RowR w 1 v n (z.map (Value.int .i64)) := by
  obtain ⟨h1, h2, _, a, c, rfl, h3, h4, h5⟩ := h
  refine ⟨by simpa using h1, a, c, rfl, h3, h4, ?_⟩
  rcases h5 with h5 | ⟨b, o, ha, hb, hc⟩
  · exact .inl h5
  · refine .inr ⟨b, o, ha, hb, fun j u hu => ?_⟩
    have hj : j < z.length := by have := (List.getElem?_eq_some_iff.1 hu).1; simpa using this
    rw [map_getD hj] at hu
    rw [hc j (by omega)]
    exact hu
/-- 'append(out, xs...)', out a row of the call's own, xs any slice -/
theorem wp_srcK {w : World} {o : Oper} {a : Act} {C : Act → World → Prop} {Q : Exit → Act → World → Prop} (s x : Operand) (t : TypeId)
    (ho : o.op = .call { callee := .builtin .append, args := #[s, x], argTypes := #[t, t] })
    (base : Nat) (e : TypeId) (i : TypeInfo) (z : Value) (K B : Nat) (ht : Try.prog.underlying t = some (.slice e)) (hi : Try.prog.info? e = some i) (hz : i.zero = some z)
    (hsize : i.size = K) (hby : i.bytes = B) (hzs : z.cells.size = K) (hB : B ≤ 100) (hB0 : 0 < B) (hK : 0 < K)
    (v : Value) (n : Nat) (xs : List Value) (hs : a.eval s = v) (hown : w.ownsRow base e K v n xs)
    (vx : Value) (m : Nat) (ys : List Value) (hx : a.eval x = vx) (hr : RowR w K vx m ys) (h1c : ∀ u ∈ ys, u.oneCell' = true)
    (h63 : n + m ≤ 1048576) (hbase : base ≤ w.heap.size)
    (h : ∀ v' w', w'.ownsRow base e K v' (n + m) (xs ++ ys) → w.grownBy w' v.ownBlock → C (a.put o.dst v') w') : Oper.wp Try.prog o a w C Q := by
  obtain ⟨h1, ad, c, rfl, h5, h6, h7⟩ := hr
  cases ad with
  | none =>
    have hm : m = 0 := by
      rcases h7 with h7 | ⟨b, o, ha, _⟩
      · exact h7
      · cases ha
    subst hm
    obtain rfl : ys = [] := List.eq_nil_of_length_eq_zero (by simpa using h1)
    have hrun : (Builtin.append_ #[t, t] o.type #[v, .slice none 0 c]).run Try.prog w = .ok v w := by
      rcases hown.2 with ⟨rfl, rfl⟩ | ⟨g, cap, cur, rfl, _, _, hnc, _⟩
      · simp [Builtin.append_, run_underlying ht, sizeOf, typeInfo, hi, Builtin.lenOf, Builtin.firstCells]
      · simp [Builtin.append_, run_underlying ht, sizeOf, typeInfo, hi, Builtin.lenOf, Builtin.firstCells, hnc, storeCells]
    unfold Oper.wp
    simp [execOp, ho, resolve, invoke, builtin, hs, hx, hrun, Result.andThen]
    exact h v w (by simpa using hown) (World.grownBy.refl _ _)
  | some ad =>
    refine wp_append_own w s x t ho base e i z K B ht hi hz hsize hby hzs (by omega) v n xs hs hown ad m c ys hx h1 ?_ h1c (by unfold maxLen; omega) (Nat.le_trans (Nat.mul_le_mul h63 hB) (by decide)) hbase (fun v' w' a1 a2 _ => h v' w' a1 a2)
    intro j u hu
    have hj := (List.getElem?_eq_some_iff.1 hu).1
    by_cases h0 : m = 0
    · rw [h0] at h1
      omega
    obtain ⟨b, o', ha, hb, hc⟩ := h7.resolve_left h0
    simp only [Option.some.injEq] at ha
    subst ha
    rw [Addr.add_lit]
    exact hc j u hu
theorem step_srcK {w : World} {ops : Array Oper} {o : Oper} {a : Act} {C : Act → World → Prop} {Q : Exit → Act → World → Prop} {E : Prop} (hgd : o.guard = none) (s x : Operand) (t : TypeId)
    (ho : o.op = .call { callee := .builtin .append, args := #[s, x], argTypes := #[t, t] })
    (base : Nat) (e : TypeId) (i : TypeInfo) (z : Value) (K B : Nat) (ht : Try.prog.underlying t = some (.slice e)) (hi : Try.prog.info? e = some i) (hz : i.zero = some z)
    (hsize : i.size = K) (hby : i.bytes = B) (hzs : z.cells.size = K) (hB : B ≤ 100) (hB0 : 0 < B) (hK : 0 < K)
    (v : Value) (n : Nat) (xs : List Value) (hs : a.eval s = v) (hown : w.ownsRow base e K v n xs)
    (vx : Value) (m : Nat) (ys : List Value) (hx : a.eval x = vx) (hr : RowR w K vx m ys) (h1c : ∀ u ∈ ys, u.oneCell' = true)
    (h63 : n + m ≤ 1048576) (hbase : base ≤ w.heap.size)
    (h : ∀ v' w', w'.ownsRow base e K v' (n + m) (xs ++ ys) → w.grownBy w' v.ownBlock → C (a.put o.dst v') w') :
    if Region.wanted o (yielded ops a.tmps) = true then Oper.wp Try.prog o a w C Q else E := by
  have hw : Region.wanted o (yielded ops a.tmps) = true := by simp [Region.wanted, hgd]
  rw [if_pos hw]
  exact wp_srcK s x t ho base e i z K B ht hi hz hsize hby hzs hB hB0 hK v n xs hs hown vx m ys hx hr h1c h63 hbase h
theorem wpList_srcK {w : World} {ops : Array Oper} {rest : List Oper} {o : Oper} {a : Act} {Q : Exit → Act → World → Prop} (hgd : o.guard = none) (s x : Operand) (t : TypeId)
    (ho : o.op = .call { callee := .builtin .append, args := #[s, x], argTypes := #[t, t] })
    (base : Nat) (e : TypeId) (i : TypeInfo) (z : Value) (K B : Nat) (ht : Try.prog.underlying t = some (.slice e)) (hi : Try.prog.info? e = some i) (hz : i.zero = some z)
    (hsize : i.size = K) (hby : i.bytes = B) (hzs : z.cells.size = K) (hB : B ≤ 100) (hB0 : 0 < B) (hK : 0 < K)
    (v : Value) (n : Nat) (xs : List Value) (hs : a.eval s = v) (hown : w.ownsRow base e K v n xs)
    (vx : Value) (m : Nat) (ys : List Value) (hx : a.eval x = vx) (hr : RowR w K vx m ys) (h1c : ∀ u ∈ ys, u.oneCell' = true)
    (h63 : n + m ≤ 1048576) (hbase : base ≤ w.heap.size)
    (h : ∀ v' w', w'.ownsRow base e K v' (n + m) (xs ++ ys) → w.grownBy w' v.ownBlock → wpList Try.prog ops Q rest (a.put o.dst v') w') : wpList Try.prog ops Q (o :: rest) a w :=
  wpList_plain hgd fun _ hK2 => wp_srcK s x t ho base e i z K B ht hi hz hsize hby hzs hB hB0 hK v n xs hs hown vx m ys hx hr h1c h63 hbase fun v' w' h2 h3 => hK2 _ _ (h v' w' h2 h3)
theorem row_emptyK (w : World) (t : TypeId) (K : Nat) : (w.alloc (.cells #[] t)).ownsRow w.heap.size t K (.slice (some ⟨w.heap.size, 0, none⟩) 0 0) 0 [] :=
  ⟨by simp, .inr ⟨w.heap.size, 0, #[], rfl, Nat.le_refl _, heap_alloc_new w _, Nat.le_refl _, Nat.zero_le _, by simp, by simp⟩⟩
theorem ints_oneK (z : List Int) : ∀ u ∈ z.map (Value.int .i64), u.oneCell' = true := by
  intro u hu
  simp only [List.mem_map] at hu
  obtain ⟨x, _, rfl⟩ := hu
  rfl
theorem info_IntK : (Try.prog.info? 3).map (fun i => (i.zero, i.size, i.bytes)) = some (some (.int .i64 0), 1, 8) := by kernel_rfl
theorem info_PacketK : (Try.prog.info? 38).map (fun i => (i.zero, i.size, i.bytes)) = some (some (.agg #[.int .i64 0, .int .i64 0, .int .i64 0, .slice none 0 0]), 4, 48) := by kernel_rfl

theorem lit_oneK (w : World) (y : Int) : RowR (w.alloc (.cells #[.int .i64 y] 3)) 1 (.slice (some ⟨w.heap.size, 0, none⟩) 1 1) 1 ([y].map (Value.int .i64)) := by
  refine ⟨rfl, _, 1, rfl, Nat.le_refl _, by unfold maxLen; omega, .inr ⟨w.heap.size, 0, rfl, by simp, fun j u hu => ?_⟩⟩
  match j, hu with
  | 0, hu => simp at hu; subst hu; simp
  | j + 1, hu => simp at hu
/-- a slice of integers that the call itself has made, in a block of its own from base on -/
def SigO (w : World) (base : Nat) (u : Value) (s : List Int) : Prop := w.ownsRow base 3 1 u s.length (s.map (Value.int .i64)) ∧ (∀ x ∈ s, (Lit.int .i64 x).wf = true) ∧ s.length ≤ 1000
theorem SigO.far {w w' : World} {base : Nat} {u : Value} {s : List Int} (h : SigO w base u s) {r : Option Nat} (g : w.grownBy w' r) (hr : ∀ k, r = some k → k < base) : SigO w' base u s :=
  ⟨h.1.kept g (by
    cases hb : u.ownBlock with
    | none => exact .inl rfl
    | some k => exact .inr (fun hk => by have h1 := (h.1.lt k hb).1; have h2 := hr k hk.symm; omega)), h.2⟩
theorem SigO.ext {w w' : World} {base : Nat} {u : Value} {s : List Int} (h : SigO w base u s) (e : Ext w w') : SigO w' base u s := h.far e.grown (fun k hk => by cases hk)
theorem SigO.mono {w : World} {base b2 : Nat} {u : Value} {s : List Int} (h : SigO w base u s) (hb : b2 ≤ base) : SigO w b2 u s := ⟨row_mono h.1 hb, h.2⟩
theorem SigO.ints {w : World} {base : Nat} {u : Value} {s : List Int} (h : SigO w base u s) : IntRow .i64 1 w u s.length s := row_ints h.1 (by have := h.2.2; unfold maxLen; omega) h.2.1

set_option maxRecDepth 100000 in
set_option maxHeartbeats 1000000 in
theorem contentS {w : World} {B : Nat} {vc : Value} {n : Nat} {zc : List Int} {q : Nat} (h : CS w B vc n zc q) (hq : q ≤ 100000000000) :
    Calls Try.prog 73 #[.pointer (some ⟨B, 0, none⟩)] w fun e w' => ∃ (x : Int) (q' : Nat), e = .returned (.int .i64 x) ∧ 1 ≤ x ∧ x ≤ 60 ∧ q' ≤ q + 2 ∧ CS w' B vc n zc q' ∧ w.grownBy w' (some B) := by
  go_enter Try.func73, Try.ntmps73
  go_wp2_with (fail)
  refine (pickS 60 h (by omega)).mono ?_
  rintro e w1 ⟨x1, q1, rfl, b1, _, b2, hq1, hq1', hc1, hg1⟩
  have b2' := b2 (by omega)
  go_wp2_with (fail)
  go_ret
  exact ⟨1 + x1, q1, ret_int rfl, by omega, by omega, by omega, hc1, hg1⟩

set_option maxRecDepth 100000 in
set_option maxHeartbeats 4000000 in
theorem contentsS {w : World} {B : Nat} {vc : Value} {n : Nat} {zc : List Int} {q : Nat} (k0 : Nat) (hk0 : k0 ≤ 12) (h : CS w B vc n zc q) (hq : q ≤ 10000000000) :
    Calls Try.prog 50 #[.pointer (some ⟨B, 0, none⟩), .int .i64 (k0 : Int)] w fun e w' => ∃ (v : Value) (s : List Int) (q' : Nat), e = .returned v ∧ SigO w' w.heap.size v s ∧ s.length = k0 ∧ q' ≤ q + 200 ∧ CS w' B vc n zc q' ∧ w.grownBy w' (some B) := by
  obtain ⟨i0, hi, hz0, hz1, hz2⟩ := info_parts info_IntK
  have hBs := h.size
  go_enter Try.func50, Try.ntmps50
  go_wp2_with (fail)
  go_loopw [1, 5] (fun s1 s5 wr => ∃ (d : Nat) (s : List Int) (qr : Nat), s.length + d = k0 ∧ s1 = .int .i64 (d : Int) ∧ wr.ownsRow w.heap.size 3 1 s5 s.length (s.map (Value.int .i64)) ∧ (∀ x ∈ s, (Lit.int .i64 x).wf = true) ∧ qr ≤ q + 10 * s.length ∧ CS wr B vc n zc qr ∧ w.grownBy wr (some B))
    (fun s1 _ _ => (intOf s1).toNat)
  case atStart => exact ⟨k0, [], q, by simp, rfl, World.ownsRow_nil _ _ _ _, by simp, by simp, h, World.grownBy.refl _ _⟩
  case round =>
    obtain ⟨d, s, qr, hd, rfl, hrow, hsw, hqr, hcr, hgr⟩ := hrel
    clear h
    obtain ⟨sl, hsl⟩ : ∃ k, k = s.length := ⟨_, rfl⟩
    rw [← hsl] at hd hrow hqr
    have HSL := hid hsl
    clear hsl
    obtain ⟨a3, c3, rfl, hnc, hcm, hown⟩ := row_shape hrow
    have HROW := hid hrow
    have HFAR := hid (fun k (hk : (Value.slice a3 sl c3).ownBlock = some k) => show B < k ∧ w.heap.size ≤ k by have := (hrow.lt k hk).1; omega)
    clear hrow hown
    by_cases hlt : 0 < d
    · have t1 : decide ((0 : Int) < (d : Int)) = true := by simpa using hlt
      have t2 : decide (0 < d) = true := by simpa using hlt
      go_wp2_with (fail)
      refine (contentS hcr (by omega)).mono ?_
      rintro e w1 ⟨x1, q1, rfl, b1, b2, hq1, hc1, hg1⟩
      go_wp2_with (fail)
      refine (contentS hc1 (by omega)).mono ?_
      rintro e w2 ⟨x2, q2, rfl, b3, b4, hq2, hc2, hg2⟩
      go_wp2_with (fail)
      refine (amongL [1, 5, 12, 60, x1, x2] hc2 (by omega) rfl (by simp) (by simp) rfl (by intro z hz; simp at hz; omega)).mono ?_
      rintro e w3 ⟨y, q3, rfl, hy, hq3, hq3', hc3, hg3⟩
      have wy : (Lit.int .i64 y).wf = true := wf_i64 (by simp at hy; omega)
      clear hy
      have hg03 := World.grownBy.trans hgr (World.grownBy.trans hg1 (World.grownBy.trans hg2 hg3))
      have HROW3 := hid (((HROW.out.kept hg1 (.inr (fun e => by have := (HFAR.out _ e).1; omega))).kept hg2 (.inr (fun e => by have := (HFAR.out _ e).1; omega))).kept hg3 (.inr (fun e => by have := (HFAR.out _ e).1; omega)))
      have hb3 : w.heap.size ≤ w3.heap.size := hg03.size
      clear hcr hc1 hc2 hgr hg1 hg2 hg3 HROW
      go_wp2_with (at_builtin; go_loud (refine wpList_srcK rfl (.tmp 10) (.tmp 18) 32 rfl w.heap.size 3 i0 _ 1 8 Try.underlying32 hi hz0 hz1 hz2 rfl (by omega) (by omega) (by omega) _ sl (s.map (Value.int .i64)) rfl (row_ext HROW3.out ((Ext.refl _).alloc _)) _ 1 ([y].map (Value.int .i64)) rfl (lit_oneK _ y) (ints_oneK _) (by omega) (by simp only [World.size_alloc]; omega) ?_; intro v1 wz hr1 hgz; obtain ⟨a1, c1', rfl, _, _, _⟩ := row_shape hr1; have hcz : CS wz B vc n zc q3 := CS.far (hc3.ext ((Ext.refl _).alloc _)) hgz (fun k hk => (HFAR.out k hk).1); have hgz0 : w.grownBy wz (some B) := World.grownBy.andThen (World.grownBy.trans hg03 (((Ext.refl _).alloc _ : Ext w3 _).grown.but (some B))) hgz (fun k hk => .inl (HFAR.out k hk).2)))
      go_roundw
      case rel =>
        have hs1 := HSL.out
        refine ⟨d - 1, s ++ [y], q3, by simp; omega, by first | go_num | (congr 1; omega), ?_, fun x hx => ?_, by simp; omega, hcz, hgz0⟩
        · rw [List.length_append, List.map_append, ← hs1]
          exact hr1
        · rcases List.mem_append.1 hx with hx | hx
          · exact hsw x hx
          · simp only [List.mem_singleton] at hx; subst hx; exact wy
      case measure => simp [intOf]; omega
    · obtain rfl : d = 0 := by omega
      have t1 : decide ((0 : Int) < ((0 : Nat) : Int)) = false := by simp
      have t2 : decide (0 < 0) = false := by simp
      go_wp2_with (fail)
      go_ret
      have hs1 := HSL.out
      refine ⟨_, s, qr, rfl, ⟨?_, hsw, by omega⟩, by omega, by omega, hcr, hgr⟩
      rw [← hs1]
      exact HROW.out

set_option maxRecDepth 100000 in
set_option maxHeartbeats 1000000 in
theorem l1Own_any (v : Value) (n : Nat) (z : List Int) (w : World) (h : IntRow .i64 1 w v n z) (hn : n ≤ 1000) :
    Calls Try.prog 53 #[v] w fun e w' => ∃ v', e = .returned v' ∧ SigO w' w.heap.size v' z ∧ Ext w w' := by
  obtain ⟨i0, hi, hz0, hz1, hz2⟩ := info_parts info_IntK
  have hh := hid h
  have hwf := hid h.2.2.1
  have hl : z.length = n := by simpa using h.1
  obtain ⟨a, c, rfl⟩ := introw_slice h
  clear h
  go_enter Try.func53, Try.ntmps53
  go_wp2_with (at_builtin; go_loud (refine wpList_srcK rfl (.tmp 3) (.tmp 4) 32 rfl w.heap.size 3 i0 _ 1 8 Try.underlying32 hi hz0 hz1 hz2 rfl (by omega) (by omega) (by omega) _ 0 [] rfl (row_emptyK _ _ _) _ n (z.map (Value.int .i64)) rfl ((rowR_ints hh.out).ext (by repeat (first | exact Ext.refl _ | assumption | refine Ext.alloc ?_ _ | refine Ext.drew ?_ | refine Ext.drewN ?_ _ | refine Ext.setCell ?_ (by first | exact Nat.le_refl _ | (simp; done) | (dsimp only; omega) | (simp only [World.size_alloc, World.size_setCell]; omega)) _ | refine Ext.trans ?_ (by assumption)))) (ints_oneK _) (by omega) (by simp) ?_; intro v1 w1 hr1 hg1))
  have hE1 : Ext w w1 := Ext.of_grownAt ((by repeat (first | exact Ext.refl _ | assumption | refine Ext.alloc ?_ _ | refine Ext.drew ?_ | refine Ext.drewN ?_ _ | refine Ext.setCell ?_ (by first | exact Nat.le_refl _ | (simp; done) | (dsimp only; omega) | (simp only [World.size_alloc, World.size_setCell]; omega)) _ | refine Ext.trans ?_ (by assumption))) : Ext w (w.alloc (.cells #[] 3))) hg1 (fun k hk => by
    have hq : (Value.slice (some ⟨w.heap.size, 0, none⟩) 0 0).ownBlock = some k := hk
    have hq2 : w.heap.size = k := by simpa [Value.ownBlock] using hq
    omega)
  go_ret
  refine ⟨_, rfl, ⟨?_, hwf.out, by omega⟩, hE1⟩
  rw [hl]
  rw [Nat.zero_add, List.nil_append] at hr1
  exact hr1
end Go.Proofs.Ytjmbhlhkjjinbaa