/- The drawing cursor: a choice among numbers that were just laid down. No condition beyond the cursor's place. -/
import Derived.Test.YtjmbhlhkjjinbaaCurA
import Derived.Deep.AppendLies
namespace Go.Proofs.Ytjmbhlhkjjinbaa
open Go.RowKit
set_option linter.unusedSimpArgs false
set_option linter.unusedVariables false

set_option maxRecDepth 100000 in
theorem wf_i64 {z : Int} (h : -9223372036854775808 ≤ z ∧ z ≤ 9223372036854775807) : (Lit.int .i64 z).wf = true := by
  simp [Lit.wf, IntKind.min, IntKind.max, IntKind.signed, IntKind.bits]
  omega

theorem lit_row (w : World) (vs : Array Value) (m : Nat) (zs : List Int) (hm2 : m ≤ 1000) (hz : zs.length = m) (hv : vs.toList = zs.map (Value.int .i64)) (hw : ∀ z ∈ zs, -9223372036854775808 ≤ z ∧ z ≤ 9223372036854775807) :
    IntRow .i64 1 (w.alloc (.cells vs 3)) (.slice (some ⟨w.heap.size, 0, none⟩) m m) m zs := by
  have hs : vs.size = m * 1 := by
    have := congrArg List.length hv
    simp at this
    omega
  have hr := World.ownsRow_lit (base := w.heap.size) (e := 3) (size := 1) w vs m (Nat.le_refl _) (by simp [maxLen]; omega) hs
  refine ⟨by omega, by simp [maxLen]; omega, fun z hz => wf_i64 (hw z hz), _, m, rfl, Nat.le_refl _, by simp [maxLen]; omega, ?_⟩
  by_cases h0 : m = 0
  · exact .inl h0
  refine .inr ⟨w.heap.size, 0, rfl, (hr.lt _ rfl).2, fun j hj => ?_⟩
  rw [show 0 + j = j by omega, hr.cellAt j hj, hv]
  simp [List.getD_eq_getElem?_getD, List.getElem?_map, List.getElem?_eq_getElem (show j < zs.length by omega)]

theorem amongL {w : World} {B : Nat} {vc : Value} {n : Nat} {zc : List Int} {q : Nat} {vs : Array Value} {m : Nat} (zs : List Int) (h : CS w B vc n zc q) (hq : q ≤ 900000000000) (hz : zs.length = m) (hm : 1 ≤ m) (hm2 : m ≤ 1000) (hv : vs.toList = zs.map (Value.int .i64)) (hw : ∀ z ∈ zs, -9223372036854775808 ≤ z ∧ z ≤ 9223372036854775807) :
    Calls Try.prog 34 #[.pointer (some ⟨B, 0, none⟩), .slice (some ⟨w.heap.size, 0, none⟩) m m] (w.alloc (.cells vs 3)) fun e w' => ∃ (x : Int) (q' : Nat), e = .returned (.int .i64 x) ∧ x ∈ zs ∧ q ≤ q' ∧ q' ≤ q + 2 ∧ CS w' B vc n zc q' ∧ w.grownBy w' (some B) := by
  have hr := lit_row w vs m zs hm2 hz hv hw
  have hB := h.size
  have e1 : Ext w (w.alloc (.cells vs 3)) := (by repeat (first | exact Ext.refl _ | assumption | refine Ext.alloc ?_ _ | refine Ext.drew ?_ | refine Ext.drewN ?_ _ | refine Ext.setCell ?_ (by first | exact Nat.le_refl _ | (simp; done) | (dsimp only; omega) | (simp only [World.size_alloc, World.size_setCell]; omega)) _ | refine Ext.trans ?_ (by assumption)))
  refine (amongS _ m zs (h.ext e1) hq hr hm hm2 (by rintro a l c ⟨rfl⟩; simp; omega)).mono ?_
  rintro e w' ⟨i, q', hi, rfl, h1, h2, h3, h4⟩
  refine ⟨_, q', rfl, ?_, h1, h2, h3, World.grownBy.trans (e1.grown.but (some B)) h4⟩
  rw [List.getD_eq_getElem?_getD, List.getElem?_eq_getElem (show i < zs.length by omega)]
  exact List.getElem_mem _

/-- The same, the list's block given by a name. -/
theorem amongB {w : World} {B : Nat} {vc : Value} {n : Nat} {zc : List Int} {q : Nat} {vs : Array Value} {m : Nat} {g : Nat} (zs : List Int) (h : CS w B vc n zc q) (hg : g = w.heap.size) (hq : q ≤ 900000000000) (hz : zs.length = m) (hm : 1 ≤ m) (hm2 : m ≤ 1000) (hv : vs.toList = zs.map (Value.int .i64)) (hw : ∀ z ∈ zs, -9223372036854775808 ≤ z ∧ z ≤ 9223372036854775807) :
    Calls Try.prog 34 #[.pointer (some ⟨B, 0, none⟩), .slice (some ⟨g, 0, none⟩) m m] (w.alloc (.cells vs 3)) fun e w' => ∃ (x : Int) (q' : Nat), e = .returned (.int .i64 x) ∧ x ∈ zs ∧ q ≤ q' ∧ q' ≤ q + 2 ∧ CS w' B vc n zc q' ∧ w.grownBy w' (some B) := by
  subst hg
  exact amongL zs h hq hz hm hm2 hv hw

theorem grow_cell (w : World) (a : Addr) (u : Value) : w.grownBy (w.setCell a u) (some a.block) :=
  ⟨rfl, rfl, rfl, by simp, fun k _ hk => heap_setCell_other w a k u (fun e => hk (by rw [e]))⟩

theorem grow_set {w0 w : World} {B : Nat} (g : w0.grownBy w (some B)) {b : Nat} (hb : w0.heap.size ≤ b) (j : Nat) (u : Value) : w0.grownBy (w.setCell ⟨b, j, none⟩ u) (some B) :=
  World.grownBy.andThen g (grow_cell w ⟨b, j, none⟩ u) (by intro j hj; simp at hj; omega)

theorem CS.set {w : World} {B : Nat} {vc : Value} {n : Nat} {zc : List Int} {q : Nat} (h : CS w B vc n zc q) {b : Nat} (hb : B < b) (j : Nat) (u : Value) : CS (w.setCell ⟨b, j, none⟩ u) B vc n zc q := by
  obtain ⟨⟨s, h1⟩, h2, h3, h4⟩ := h
  have g := grow_cell w ⟨b, j, none⟩ u
  refine ⟨⟨s, h1.kept g (.inr (by simp [Value.ownBlock]; omega))⟩, introw_grown h2 (fun h0 a l c e => ?_) g, h3, h4⟩
  have := h3 h0 a l c e
  simp only []
  omega

/-- A fresh cursor. -/
theorem cur_new {w : World} {vc : Value} {n : Nat} {zc : List Int} (h : IntRow .u8 1 w vc n zc) (hb : n ≤ 9223372036854775807) :
    CS (w.alloc (.cells #[vc, .int .i64 0, .int .u64 0] 57)) w.heap.size vc n zc 0 := by
  have e1 : Ext w (w.alloc (.cells #[vc, .int .i64 0, .int .u64 0] 57)) := (by repeat (first | exact Ext.refl _ | assumption | refine Ext.alloc ?_ _ | refine Ext.drew ?_ | refine Ext.drewN ?_ _ | refine Ext.setCell ?_ (by first | exact Nat.le_refl _ | (simp; done) | (dsimp only; omega) | (simp only [World.size_alloc, World.size_setCell]; omega)) _ | refine Ext.trans ?_ (by assumption)))
  have hr := World.ownsRow_lit (base := w.heap.size) (e := 57) (size := 3) w #[vc, .int .i64 0, .int .u64 0] 1 (Nat.le_refl _) (by simp [maxLen]) rfl
  refine ⟨⟨0, ?_⟩, h.ext e1, ?_, hb⟩
  · exact ⟨hr.1, hr.2.elim .inl fun ⟨g, cap, cur, h1, h2, h3⟩ => .inr ⟨g, cap, cur, h1, (by simp at h1; omega), h3⟩⟩
  · rintro h0 a l c rfl
    obtain ⟨h1, h2, h3, a', c', h4, h5, h6, h7⟩ := h
    injection h4 with h4 _ _
    obtain ⟨b, o, ha, hbs, _⟩ := h7.resolve_left h0
    rw [ha] at h4
    injection h4 with h4
    subst h4
    exact hbs
end Go.Proofs.Ytjmbhlhkjjinbaa
