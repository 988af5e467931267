/- The drawing cursor of the reference: what its first methods return and leave. Condition: the cursor has not come to a count near the greatest integer. -/
import Derived.Test.YtjmbhlhkjjinbaaLeaf
import Derived.Maps.RangeWalk
namespace Go.Proofs.Ytjmbhlhkjjinbaa
open Go.RowKit
set_option linter.unusedSimpArgs false
set_option linter.unusedVariables false

/-- block B is a cursor over the code vc, that has come to place q -/
def Cur (w : World) (B : Nat) (vc : Value) (q : Nat) : Prop :=
  ∃ s : Int, w.ownsRow B 57 3 (.slice (some ⟨B, 0, none⟩) 1 1) 1 [vc, .int .i64 (q : Int), .int .u64 s]

theorem seed_bd (x : Int) : 0 ≤ IntKind.u64.wrap x ∧ IntKind.u64.wrap x / 1099511627776 ≤ 16777215 := by
  rw [IntKind.wrap_u64]
  omega
theorem mask255 {x : Int} (h0 : 0 ≤ x) (h1 : x ≤ 16777215) : bits .and .u64 x 255 = x % 256 := by
  have h := bits_mask .u64 24 (by decide) (fun n h2 h3 => by rw [IntKind.wrap_u64]; omega) 8 (by decide) x (by omega) (by omega)
  have e : ((2 : Int) ^ 8 - 1) = 255 := by decide
  have e2 : ((2 : Int) ^ 8) = 256 := by decide
  rw [e, e2] at h
  exact h

theorem cur_step {w : World} {B : Nat} {vc : Value} {q : Int} {s : Int} (hrow : w.ownsRow B 57 3 (.slice (some ⟨B, 0, none⟩) 1 1) 1 [vc, .int .i64 q, .int .u64 s]) {G : World → Prop} (k : Nat) (q2 s2 : Int) (hs : 0 ≤ s2 ∧ s2 / 1099511627776 ≤ 16777215)
    (h : ∀ (s2 : Int) (wz : World), Hid (0 ≤ s2 ∧ s2 / 1099511627776 ≤ 16777215) → wz.ownsRow B 57 3 (.slice (some ⟨B, 0, none⟩) 1 1) 1 [vc, .int .i64 q2, .int .u64 s2] → w.grownBy wz (some B) → G wz) :
    G (((w.drewN k).setCell ⟨B, 1, none⟩ (.int .i64 q2)).setCell ⟨B, 2, none⟩ (.int .u64 s2)) := by
  have h1 := row_ext hrow ((Ext.refl w).drewN k)
  have h2 := h1.stored 1 (.int .i64 q2)
  have h3 := h2.1.stored 2 (.int .u64 s2)
  have g1 : w.grownBy (w.drewN k) (some B) := (((Ext.refl w).drewN k).grown).but (some B)
  exact h s2 _ hs h3.1 (World.grownBy.trans (World.grownBy.trans g1 h2.2) h3.2)

set_option maxRecDepth 100000 in
set_option maxHeartbeats 1000000 in
theorem next_any (B : Nat) (vc : Value) (n : Nat) (zc : List Int) (q : Nat) (w : World) (h : Cur w B vc q) (hr : IntRow .u8 1 w vc n zc) (hb : n ≠ 0 → ∀ a l c, vc = .slice (some a) l c → a.block < B) (hn : n ≤ 9223372036854775807) (hq : q ≤ 1000000000000) :
    Calls Try.prog 54 #[.pointer (some ⟨B, 0, none⟩)] w fun e w' => ∃ x : Int, e = .returned (.int .i64 x) ∧ 0 ≤ x ∧ x ≤ 255 ∧ Cur w' B vc (q + 1) ∧ w.grownBy w' (some B) := by
  obtain ⟨s, hrow⟩ := h
  have c0 : w.cell? ⟨B, 0, none⟩ = some vc := hrow.cellAt 0 (by omega)
  have c1 : w.cell? ⟨B, 1, none⟩ = some (.int .i64 (q : Int)) := hrow.cellAt 1 (by omega)
  have c2 : w.cell? ⟨B, 2, none⟩ = some (.int .u64 s) := hrow.cellAt 2 (by omega)
  have f1 := hrow.frozenAt 1
  have f2 := hrow.frozenAt 2
  obtain ⟨hl, _, hwf, a, c, rfl, hnc, hcm, hcell⟩ := hr
  by_cases hlt : q < n
  · obtain ⟨b, o, rfl, hbs, hc⟩ := hcell.resolve_left (by omega)
    have hbB := hb (by omega) _ _ _ rfl
    simp only [] at hbB
    obtain ⟨y, hy⟩ : ∃ y, y = zc.getD q 0 := ⟨_, rfl⟩
    have sy : w.cell? ⟨b, o + q, none⟩ = some (.int .u8 y) := by rw [hc q (by omega), hy]
    have hyw := getD_wf (j := q) hwf (by omega)
    rw [← hy] at hyw
    have hyb : 0 ≤ y ∧ y ≤ 255 := by simpa [Lit.wf, IntKind.min, IntKind.max, IntKind.signed, IntKind.bits] using hyw
    obtain ⟨hy1, hy2⟩ := hyb
    clear hy hyw hc hcell hwf hb
    have t1 : decide ((q : Int) < n) = true := by simpa using hlt
    have t2 : decide (q < n) = true := by simpa using hlt
    go_enter Try.func54, Try.ntmps54
    go_wp2_with (fail)
    go_quiet (fail)
    go_wp2_with (fail)
    go_quiet (fail)
    go_wp2_with (fail)
    refine cur_step hrow _ _ _ (seed_bd _) ?_
    intro s2 wz HS2 hrow2 hg2
    have c0 : wz.cell? ⟨B, 0, none⟩ = some (.slice (some ⟨b, o, none⟩) n c) := hrow2.cellAt 0 (by omega)
    have c1 : wz.cell? ⟨B, 1, none⟩ = some (.int .i64 ((q : Int) + 1)) := hrow2.cellAt 1 (by omega)
    have c2 : wz.cell? ⟨B, 2, none⟩ = some (.int .u64 s2) := hrow2.cellAt 2 (by omega)
    have t3 : decide ((q : Int) + 1 ≤ n) = true := by simp; omega
    have t4 : decide (q + 1 ≤ n) = true := by simp; omega
    have t5 : decide (q < n) = true := t2
    go_quiet (fail)
    go_wp2_with (fail)
    go_ret
    exact ⟨y, rfl, hy1, hy2, ⟨s2, row_ext hrow2 (by repeat (first | exact Ext.refl _ | assumption | refine Ext.alloc ?_ _ | refine Ext.drew ?_ | refine Ext.drewN ?_ _ | refine Ext.setCell ?_ (by first | exact Nat.le_refl _ | (simp; done) | (dsimp only; omega) | (simp only [World.size_alloc, World.size_setCell]; omega)) _ | refine Ext.trans ?_ (by assumption)))⟩, World.grownBy.trans hg2 (((by repeat (first | exact Ext.refl _ | assumption | refine Ext.alloc ?_ _ | refine Ext.drew ?_ | refine Ext.drewN ?_ _ | refine Ext.setCell ?_ (by first | exact Nat.le_refl _ | (simp; done) | (dsimp only; omega) | (simp only [World.size_alloc, World.size_setCell]; omega)) _ | refine Ext.trans ?_ (by assumption))) : Ext wz _).grown.but (some B))⟩
  · clear hcell hwf
    have t1 : decide ((q : Int) < n) = false := by simp; omega
    have t2 : decide (q < n) = false := by simp; omega
    go_enter Try.func54, Try.ntmps54
    go_wp2_with (fail)
    go_quiet (fail)
    go_wp2_with (fail)
    refine cur_step hrow _ _ _ (seed_bd _) ?_
    intro s2 wz HS2 hrow2 hg2
    have c0 : wz.cell? ⟨B, 0, none⟩ = some (.slice a n c) := hrow2.cellAt 0 (by omega)
    have c1 : wz.cell? ⟨B, 1, none⟩ = some (.int .i64 ((q : Int) + 1)) := hrow2.cellAt 1 (by omega)
    have c2 : wz.cell? ⟨B, 2, none⟩ = some (.int .u64 s2) := hrow2.cellAt 2 (by omega)
    have t3 : decide ((q : Int) + 1 ≤ n) = false := by simp; omega
    have t4 : decide (q + 1 ≤ n) = false := by simp; omega
    go_quiet (fail)
    go_wp2_with (fail)
    go_ret
    obtain ⟨b0, b1⟩ := HS2.out
    have m1 : wrap64 (bits BinOp.and IntKind.u64 (s2 / 1099511627776) 255) = s2 / 1099511627776 % 256 := by
      rw [mask255 (by omega) b1]
      exact IntWalk.wrap64_in _ (by omega)
    exact ⟨_, ret_int m1, by omega, by omega, ⟨s2, row_ext hrow2 (by repeat (first | exact Ext.refl _ | assumption | refine Ext.alloc ?_ _ | refine Ext.drew ?_ | refine Ext.drewN ?_ _ | refine Ext.setCell ?_ (by first | exact Nat.le_refl _ | (simp; done) | (dsimp only; omega) | (simp only [World.size_alloc, World.size_setCell]; omega)) _ | refine Ext.trans ?_ (by assumption)))⟩, World.grownBy.trans hg2 (((by repeat (first | exact Ext.refl _ | assumption | refine Ext.alloc ?_ _ | refine Ext.drew ?_ | refine Ext.drewN ?_ _ | refine Ext.setCell ?_ (by first | exact Nat.le_refl _ | (simp; done) | (dsimp only; omega) | (simp only [World.size_alloc, World.size_setCell]; omega)) _ | refine Ext.trans ?_ (by assumption))) : Ext wz _).grown.but (some B))⟩

/-- block B is a cursor over the bytes zc, whose slice lies below B -/
def CS (w : World) (B : Nat) (vc : Value) (n : Nat) (zc : List Int) (q : Nat) : Prop :=
  Cur w B vc q ∧ IntRow .u8 1 w vc n zc ∧ (n ≠ 0 → ∀ a l c, vc = .slice (some a) l c → a.block < B) ∧ n ≤ 9223372036854775807

theorem CS.size {w : World} {B : Nat} {vc : Value} {n : Nat} {zc : List Int} {q : Nat} (h : CS w B vc n zc q) : B < w.heap.size := by
  obtain ⟨s, hr⟩ := h.1
  exact (hr.lt B rfl).2

theorem introw_grown {w w' : World} {B : Nat} {vc : Value} {n : Nat} {zc : List Int} (h : IntRow .u8 1 w vc n zc) (hb : n ≠ 0 → ∀ a l c, vc = .slice (some a) l c → a.block < B) (g : w.grownBy w' (some B)) : IntRow .u8 1 w' vc n zc := by
  obtain ⟨h1, h2, h3, a, c, rfl, h5, h6, h7⟩ := h
  refine ⟨h1, h2, h3, a, c, rfl, h5, h6, ?_⟩
  by_cases h0 : n = 0
  · exact .inl h0
  rcases h7 with h7 | ⟨b, o, rfl, h9, hc⟩
  · exact .inl h7
  · have := hb h0 _ _ _ rfl
    simp only [] at this
    exact .inr ⟨b, o, rfl, Nat.lt_of_lt_of_le h9 g.size, fun j hj => World.grownBy.cell g (hc j hj) (by simp; omega)⟩

theorem CS.ext {w w' : World} {B : Nat} {vc : Value} {n : Nat} {zc : List Int} {q : Nat} (h : CS w B vc n zc q) (e : Ext w w') : CS w' B vc n zc q := by
  obtain ⟨⟨s, h1⟩, h2, h3, h4⟩ := h
  exact ⟨⟨s, row_ext h1 e⟩, h2.ext e, h3, h4⟩

theorem nextS {w : World} {B : Nat} {vc : Value} {n : Nat} {zc : List Int} {q : Nat} (h : CS w B vc n zc q) (hq : q ≤ 1000000000000) :
    Calls Try.prog 54 #[.pointer (some ⟨B, 0, none⟩)] w fun e w' => ∃ x : Int, e = .returned (.int .i64 x) ∧ 0 ≤ x ∧ x ≤ 255 ∧ CS w' B vc n zc (q + 1) ∧ w.grownBy w' (some B) := by
  obtain ⟨h1, h2, h3, h4⟩ := h
  refine (next_any B vc n zc q w h1 h2 h3 h4 hq).mono ?_
  rintro e w' ⟨x, he, hx1, hx2, hc, hg⟩
  exact ⟨x, he, hx1, hx2, ⟨hc, introw_grown h2 h3 hg, h3, h4⟩, hg⟩

set_option maxRecDepth 100000 in
set_option maxHeartbeats 800000 in
theorem pickS {w : World} {B : Nat} {vc : Value} {n : Nat} {zc : List Int} {q : Nat} (m : Int) (h : CS w B vc n zc q) (hq : q ≤ 900000000000) :
    Calls Try.prog 23 #[.pointer (some ⟨B, 0, none⟩), .int .i64 m] w fun e w' => ∃ (x : Int) (q' : Nat), e = .returned (.int .i64 x) ∧ 0 ≤ x ∧ x ≤ 65535 ∧ (1 ≤ m → x < m) ∧ q ≤ q' ∧ q' ≤ q + 2 ∧ CS w' B vc n zc q' ∧ w.grownBy w' (some B) := by
  by_cases hm : m ≤ 1
  · go_enter Try.func23, Try.ntmps23
    go_wp2_with (fail)
    go_ret
    exact ⟨0, q, rfl, by omega, by omega, by omega, by omega, by omega, h, World.grownBy.refl _ _⟩
  · by_cases h200 : m ≤ 200
    · go_enter Try.func23, Try.ntmps23
      go_wp2_with (fail)
      refine (nextS h (by omega)).mono ?_
      rintro e w1 ⟨x, rfl, hx1, hx2, hc1, hg1⟩
      have hmod1 := Int.emod_nonneg x (show m ≠ 0 by omega)
      have hmod2 := Int.emod_lt_of_pos x (show 0 < m by omega)
      go_wp2_with (fail)
      go_ret
      exact ⟨x % m, q + 1, rfl, hmod1, by omega, fun _ => hmod2, by omega, by omega, hc1, hg1⟩
    · go_enter Try.func23, Try.ntmps23
      go_wp2_with (fail)
      refine (nextS h (by omega)).mono ?_
      rintro e w1 ⟨x, rfl, hx1, hx2, hc1, hg1⟩
      go_wp2_with (fail)
      refine (nextS hc1 (by omega)).mono ?_
      rintro e w2 ⟨y, rfl, hy1, hy2, hc2, hg2⟩
      have hmod1 := Int.emod_nonneg (x * 256 + y) (show m ≠ 0 by omega)
      have hmod2 := Int.emod_lt_of_pos (x * 256 + y) (show 0 < m by omega)
      have hmod3 : (x * 256 + y) % m ≤ x * 256 + y := by
        have e1 := Int.mul_ediv_add_emod (x * 256 + y) m
        have e2 := Int.mul_nonneg (show 0 ≤ m by omega) (Int.ediv_nonneg (show 0 ≤ x * 256 + y by omega) (show 0 ≤ m by omega))
        omega
      go_wp2_with (fail)
      go_ret
      exact ⟨(x * 256 + y) % m, q + 2, rfl, hmod1, by omega, fun _ => hmod2, by omega, by omega, hc2, World.grownBy.trans hg1 hg2⟩

set_option maxRecDepth 100000 in
set_option maxHeartbeats 800000 in
theorem oneS {w : World} {B : Nat} {vc : Value} {n : Nat} {zc : List Int} {q : Nat} (m : Int) (h : CS w B vc n zc q) (hq : q ≤ 900000000000) :
    Calls Try.prog 22 #[.pointer (some ⟨B, 0, none⟩), .int .i64 m] w fun e w' => ∃ (x : Bool) (q' : Nat), e = .returned (.bool x) ∧ q ≤ q' ∧ q' ≤ q + 2 ∧ CS w' B vc n zc q' ∧ w.grownBy w' (some B) := by
  go_enter Try.func22, Try.ntmps22
  go_wp2_with (fail)
  refine (pickS m h hq).mono ?_
  rintro e w1 ⟨x, q', rfl, hx1, hx2, hx3, hq1, hq2, hc1, hg1⟩
  go_wp2_with (fail)
  all_goals (go_ret; exact ⟨_, q', rfl, hq1, hq2, hc1, hg1⟩)

set_option maxRecDepth 100000 in
set_option maxHeartbeats 800000 in
theorem amongS {w : World} {B : Nat} {vc : Value} {n : Nat} {zc : List Int} {q : Nat} (v : Value) (m : Nat) (zs : List Int) (h : CS w B vc n zc q) (hq : q ≤ 900000000000) (hv : IntRow .i64 1 w v m zs) (hm : 1 ≤ m) (hm2 : m ≤ 1000) (hvB : ∀ a l c, v = .slice (some a) l c → a.block ≠ B) :
    Calls Try.prog 34 #[.pointer (some ⟨B, 0, none⟩), v] w fun e w' => ∃ (i : Nat) (q' : Nat), i < m ∧ e = .returned (.int .i64 (zs.getD i 0)) ∧ q ≤ q' ∧ q' ≤ q + 2 ∧ CS w' B vc n zc q' ∧ w.grownBy w' (some B) := by
  obtain ⟨hl, _, hwf, a, c, rfl, hnc, hcm, hcell⟩ := hv
  obtain ⟨b, o, rfl, hbs, hc⟩ := hcell.resolve_left (by omega)
  have hne := hvB _ _ _ rfl
  simp only [] at hne
  have HC := hid hc
  clear hc hcell hwf hvB
  go_enter Try.func34, Try.ntmps34
  go_wp2_with (fail)
  refine (pickS _ h hq).mono ?_
  rintro e w1 ⟨x, q', rfl, hx1, hx2, hx3, hq1, hq2, hc1, hg1⟩
  obtain ⟨i, rfl⟩ := Int.eq_ofNat_of_zero_le hx1
  have him : i < m := by have := hx3 (by omega); omega
  clear hx3
  obtain ⟨y, hy⟩ : ∃ y, y = zs.getD i 0 := ⟨_, rfl⟩
  have sy : w1.cell? ⟨b, o + i, none⟩ = some (.int .i64 y) := by rw [hy]; exact World.grownBy.cell hg1 (HC.out i (by omega)) (by simpa using hne)
  have HY := hid hy
  clear hy
  go_wp2_with (fail)
  go_ret
  exact ⟨i, q', him, ret_int HY.out, hq1, hq2, hc1, hg1⟩
end Go.Proofs.Ytjmbhlhkjjinbaa
