/- The text of shifts, by the reference and by the program. Condition of the program's: the library's table of powers of ten lies as its text lays it. -/
import Derived.Test.YtedkffdkhnfoiaaDoorStA
import Derived.Test.YtedkffdkhnfoiaaDoorShfD
import Derived.Test.YtedkffdkhnfoiaaDoorConvShift
import Derived.Deep.AppendLies
import Derived.Lib.Join
import Derived.Lib.SmallJoins
import Derived.Sort.Grow
namespace Go.Proofs.YtedkffdkhnfoiaaDoor
open Go.RowKit
set_option linter.unusedSimpArgs false
set_option linter.unusedVariables false

def nat (x : Int) : List UInt8 := Go.Lib.decDigits x.toNat
/-- the line of shift k -/
def linT (z : List Int) (k : Nat) : List UInt8 := nat (shOp z k) ++ [32] ++ nat (shFr z k) ++ [32] ++ nat (shTo z k) ++ [10]
def txT (z : List Int) : Nat → List UInt8
  | 0 => []
  | k + 1 => txT z k ++ linT z k
def stS (z : List Int) (n : Nat) : ByteArray := if okSs z n = true then ⟨(txT z n).toArray⟩ else ⟨#[]⟩
theorem nat_len {x : Int} (h1 : x ≤ 999) : (nat x).length ≤ 3 := dec_len (by omega)
theorem linT_len {z : List Int} {n k : Nat} (hok : okSs z n = true) (hk : k < n) : (linT z k).length ≤ 12 := by
  have sb := okSs_bd hok k hk
  have h0 := nat_len (x := shOp z k) (by omega)
  have h1 := nat_len (x := shFr z k) (by omega)
  have h2 := nat_len (x := shTo z k) (by omega)
  simp only [linT, List.length_append, List.length_cons, List.length_nil]
  omega
theorem txT_len {z : List Int} {n : Nat} (hok : okSs z n = true) : ∀ k, k ≤ n → (txT z k).length ≤ k * 12
  | 0, _ => by simp [txT]
  | k + 1, hk => by
    have := txT_len hok k (by omega)
    have := linT_len hok (show k < n by omega)
    rw [txT, List.length_append]
    omega
theorem add_str (w : World) (a b : List UInt8) (h : a.length + b.length ≤ 100000) : (Op.stringOp .add ⟨a.toArray⟩ ⟨b.toArray⟩).run Tryd.prog w = .ok (.string ⟨(a ++ b).toArray⟩) w := by
  rw [run_string_add_sum w _ _ (by simp [ByteArray.size]; omega)]
  simp [ByteArray.mk_append_mk]

set_option maxRecDepth 100000 in
set_option maxHeartbeats 4000000 in
theorem sShiftsText_any (v : Value) (n : Nat) (z : List Int) (w : World) (h : IntRow .i64 3 w v n z) :
    Calls Tryd.prog 21 #[v] w fun e w' => e = .returned (.tuple #[.string (stS z n), .bool (okSs z n)]) ∧ Ext w w' := by
  cases hok : okSs z n with
  | false =>
    have HOK := hid hok
    rw [show stS z n = ⟨#[]⟩ by unfold stS; rw [hok]; rfl]
    clear hok
    go_enter Tryd.func21, Tryd.ntmps21
    go_wp2_with (fail)
    refine (shGood_any v n z w h).mono ?_
    rw [HOK.out]
    rintro e w1 ⟨rfl, hb1⟩
    go_wp2_with (fail)
    go_ret2
    exact ⟨rfl, (by repeat (first | exact Ext.refl _ | assumption | refine Ext.alloc ?_ _ | refine Ext.drew ?_ | refine Ext.drewN ?_ _ | refine Ext.setCell ?_ (by first | exact Nat.le_refl _ | (simp; done) | (dsimp only; omega) | (simp only [World.size_alloc, World.size_setCell]; omega)) _ | refine Ext.trans ?_ (by assumption)))⟩
  | true =>
    have HOK := hid hok
    rw [show stS z n = ⟨(txT z n).toArray⟩ by unfold stS; rw [hok]; rfl]
    have hn60 := okSs_n hok
    clear hok
    have hh := h
    obtain ⟨hl, hm, hwf, a, c, rfl, hnc, hcm, hcell⟩ := h
    unfold maxLen at hm
    clear hwf
    go_enter Tryd.func21, Tryd.ntmps21
    go_wp2_with (fail)
    refine (shGood_any _ n z w hh).mono ?_
    rw [HOK.out]
    rintro e w1 ⟨rfl, hb1⟩
    clear hh
    go_wp2_with (fail)
    go_loopw [4, 12] (fun s4 i wr => ∃ (k : Nat), k ≤ n ∧ i = .int .i64 (k : Int) ∧ s4 = .string ⟨(txT z k).toArray⟩ ∧ Ext w wr)
      (fun _ i _ => n - (intOf i).toNat)
    case atStart => exact ⟨0, Nat.zero_le _, rfl, rfl, hb1⟩
    case round =>
      obtain ⟨k, hk, rfl, rfl, hE⟩ := hrel
      by_cases hlt : k < n
      · obtain ⟨b, o, rfl, hb, hc⟩ := hcell.resolve_left (by omega)
        obtain ⟨x0, hx0⟩ : ∃ x, x = z.getD (k * 3) 0 := ⟨_, rfl⟩
        have s0 : wr.cell? ⟨b, o + k * 3, none⟩ = some (.int .i64 x0) := by rw [(Ext.cells hE).1 _ _ hb, show o + k * 3 = o + (k * 3) by omega, hc _ (by omega), hx0]
        have H0 := hid hx0
        clear hx0
        obtain ⟨x1, hx1⟩ : ∃ x, x = z.getD (k * 3 + 1) 0 := ⟨_, rfl⟩
        have s1 : wr.cell? ⟨b, o + k * 3 + 1, none⟩ = some (.int .i64 x1) := by rw [(Ext.cells hE).1 _ _ hb, show o + k * 3 + 1 = o + (k * 3 + 1) by omega, hc _ (by omega), hx1]
        have H1 := hid hx1
        clear hx1
        obtain ⟨x2, hx2⟩ : ∃ x, x = z.getD (k * 3 + 2) 0 := ⟨_, rfl⟩
        have s2 : wr.cell? ⟨b, o + k * 3 + 2, none⟩ = some (.int .i64 x2) := by rw [(Ext.cells hE).1 _ _ hb, show o + k * 3 + 2 = o + (k * 3 + 2) by omega, hc _ (by omega), hx2]
        have H2 := hid hx2
        clear hx2
        have sb := okSs_bd HOK.out k hlt
        have hll := linT_len HOK.out hlt
        have htl := txT_len HOK.out k hk
        have E0 := hid (show shOp z k = x0 from H0.out.symm)
        have E1 := hid (show shFr z k = x1 from H1.out.symm)
        have E2 := hid (show shTo z k = x2 from H2.out.symm)
        have HLN := hid (show linT z k = nat x0 ++ [32] ++ nat x1 ++ [32] ++ nat x2 ++ [10] by unfold linT; rw [E0.out, E1.out, E2.out])
        rw [E0.out, E1.out, E2.out] at sb
        obtain ⟨sb1, sb2, sb3, sb4, sb5⟩ := sb
        clear hc hcell H0 H1 H2 E0 E1 E2
        obtain ⟨x0, rfl⟩ := Int.eq_ofNat_of_zero_le (show 0 ≤ x0 by omega)
        obtain ⟨x1, rfl⟩ := Int.eq_ofNat_of_zero_le (show 0 ≤ x1 by omega)
        obtain ⟨x2, rfl⟩ := Int.eq_ofNat_of_zero_le (show 0 ≤ x2 by omega)
        obtain ⟨TT, hTT⟩ : ∃ t, t = txT z k := ⟨_, rfl⟩
        have HTN := hid (show txT z (k + 1) = TT ++ linT z k by rw [hTT]; rfl)
        rw [← hTT] at htl ⊢
        clear hTT
        rw [HLN.out] at hll
        rw [HLN.out] at HTN
        clear HLN
        have q0 := l1Num_any x0 (by omega)
        have q1 := l1Num_any x1 (by omega)
        have q2 := l1Num_any x2 (by omega)
        have p0 := nat_len (x := (x0 : Int)) (by omega)
        have p1 := nat_len (x := (x1 : Int)) (by omega)
        have p2 := nat_len (x := (x2 : Int)) (by omega)
        unfold nat at p0 p1 p2 hll HTN
        rw [Int.toNat_natCast] at p0 p1 p2
        rw [Int.toNat_natCast, Int.toNat_natCast, Int.toNat_natCast] at hll HTN
        obtain ⟨D0, hD0⟩ : ∃ D, D = Go.Lib.decDigits x0 := ⟨_, rfl⟩
        obtain ⟨D1, hD1⟩ : ∃ D, D = Go.Lib.decDigits x1 := ⟨_, rfl⟩
        obtain ⟨D2, hD2⟩ : ∃ D, D = Go.Lib.decDigits x2 := ⟨_, rfl⟩
        rw [← hD0, ← hD1, ← hD2] at hll HTN
        rw [← hD0] at q0 p0
        rw [← hD1] at q1 p1
        rw [← hD2] at q2 p2
        clear hD0 hD1 hD2
        have f1 := fun w => add_str w D0 [32] (by simp; omega)
        have f2 := fun w => add_str w (D0 ++ [32]) D1 (by simp; omega)
        have f3 := fun w => add_str w (D0 ++ [32] ++ D1) [32] (by simp; omega)
        have f4 := fun w => add_str w (D0 ++ [32] ++ D1 ++ [32]) D2 (by simp; omega)
        have f5 := fun w => add_str w (D0 ++ [32] ++ D1 ++ [32] ++ D2) [10] (by simp; omega)
        have f6 := fun w => add_str w TT (D0 ++ [32] ++ D1 ++ [32] ++ D2 ++ [10]) (by simp at hll ⊢; omega)
        rw [← HTN.out] at f6
        obtain ⟨SF, hSF⟩ : ∃ s : ByteArray, s = ⟨(txT z (k + 1)).toArray⟩ := ⟨_, rfl⟩
        rw [← hSF] at f6
        obtain ⟨S5, hS5⟩ : ∃ s : ByteArray, s = ⟨(D0 ++ [32] ++ D1 ++ [32] ++ D2 ++ [10]).toArray⟩ := ⟨_, rfl⟩
        rw [← hS5] at f5 f6
        obtain ⟨S4, hS4⟩ : ∃ s : ByteArray, s = ⟨(D0 ++ [32] ++ D1 ++ [32] ++ D2).toArray⟩ := ⟨_, rfl⟩
        rw [← hS4] at f4 f5
        obtain ⟨S3, hS3⟩ : ∃ s : ByteArray, s = ⟨(D0 ++ [32] ++ D1 ++ [32]).toArray⟩ := ⟨_, rfl⟩
        rw [← hS3] at f3 f4
        obtain ⟨S2, hS2⟩ : ∃ s : ByteArray, s = ⟨(D0 ++ [32] ++ D1).toArray⟩ := ⟨_, rfl⟩
        rw [← hS2] at f2 f3
        obtain ⟨S1, hS1⟩ : ∃ s : ByteArray, s = ⟨(D0 ++ [32]).toArray⟩ := ⟨_, rfl⟩
        rw [← hS1] at f1 f2
        obtain ⟨SD0, hSD0⟩ : ∃ s : ByteArray, s = ⟨(D0).toArray⟩ := ⟨_, rfl⟩
        rw [← hSD0] at f1 q0
        obtain ⟨SD1, hSD1⟩ : ∃ s : ByteArray, s = ⟨(D1).toArray⟩ := ⟨_, rfl⟩
        rw [← hSD1] at f2 q1
        obtain ⟨SD2, hSD2⟩ : ∃ s : ByteArray, s = ⟨(D2).toArray⟩ := ⟨_, rfl⟩
        rw [← hSD2] at f4 q2
        obtain ⟨ST, hST⟩ : ∃ s : ByteArray, s = ⟨(TT).toArray⟩ := ⟨_, rfl⟩
        rw [← hST] at f6 ⊢
        have HSF := hid hSF
        clear hSF hS5 hS4 hS3 hS2 hS1 hSD0 hSD1 hSD2 hST HTN hll htl p0 p1 p2
        go_wp2_with (fail)
        have hEx : Ext w (wr.alloc (.cells #[.int .i64 x0, .int .i64 x1, .int .i64 x2] 42)) := hE.alloc _
        have p0 : (wr.alloc (.cells #[.int .i64 x0, .int .i64 x1, .int .i64 x2] 42)).cell? ⟨wr.heap.size, 0, none⟩ = some (.int .i64 x0) := by simp [go_sem]
        have p1 : (wr.alloc (.cells #[.int .i64 x0, .int .i64 x1, .int .i64 x2] 42)).cell? ⟨wr.heap.size, 1, none⟩ = some (.int .i64 x1) := by simp [go_sem]
        have p2 : (wr.alloc (.cells #[.int .i64 x0, .int .i64 x1, .int .i64 x2] 42)).cell? ⟨wr.heap.size, 2, none⟩ = some (.int .i64 x2) := by simp [go_sem]
        have hgw : wr.heap.size < (wr.alloc (.cells #[.int .i64 x0, .int .i64 x1, .int .i64 x2] 42)).heap.size := by simp
        obtain ⟨wB, hwB⟩ : ∃ W, W = wr.alloc (.cells #[.int .i64 x0, .int .i64 x1, .int .i64 x2] 42) := ⟨_, rfl⟩
        rw [← hwB] at hEx p0 p1 p2 hgw ⊢
        obtain ⟨gx, hgx⟩ : ∃ g, g = wr.heap.size := ⟨_, rfl⟩
        rw [← hgx] at p0 p1 p2 hgw ⊢
        clear s0 s1 s2 hgx hwB hE
        have EB := Ext.refl wB
        have SKP := hid (fun (W : World) (hW : Ext wB W) => show W.cell? ⟨gx, 0, none⟩ = some (.int .i64 (x0 : Int)) ∧ W.cell? ⟨gx, 1, none⟩ = some (.int .i64 (x1 : Int)) ∧ W.cell? ⟨gx, 2, none⟩ = some (.int .i64 (x2 : Int)) from ⟨by rw [(Ext.cells hW).1 _ _ hgw]; exact p0, by rw [(Ext.cells hW).1 _ _ hgw]; exact p1, by rw [(Ext.cells hW).1 _ _ hgw]; exact p2⟩)
        refine wp_region_noPanic ?_
        refine wp_region_held_drew (S := (fun W => W.cell? ⟨gx, 0, none⟩ = some (.int .i64 (x0 : Int)) ∧ W.cell? ⟨gx, 1, none⟩ = some (.int .i64 (x1 : Int)) ∧ W.cell? ⟨gx, 2, none⟩ = some (.int .i64 (x2 : Int)))) (by kernel_rfl) ?_ (fun hHeld => ?_)
        · first | exact SKP.out _ (EB.drew) | (dsimp only; exact SKP.out _ (EB.drew))
        have E0 := EB.drew
        generalize wB.drew = wd at *
        refine wpAnyH_take (i := 0) (oi := { dst := some 16, op := _, type := _, pos := _, after := _, guard := _ }) (v := ?_) rfl (by kernel_rfl) (by kernel_rfl) (by kernel_rfl) (fun _ _ _ h => h) (Or.inl ⟨by rfl, ?_⟩) (by assumption) ?_
        rotate_left
        · (intro w hSw; (try dsimp only at hSw); go_simp) <;> (first | done | with_reducible rfl | rfl)
        try simp only [Act.put, List.setIfInBounds_toArray, List.set_cons_zero, List.set_cons_succ]
        refine wpAnyH_take (i := 1) (oi := { dst := some 17, op := _, type := _, pos := _, after := _, guard := _ }) (v := ?_) rfl (by kernel_rfl) (by kernel_rfl) (by kernel_rfl) (fun _ _ _ h => h) (Or.inl ⟨by rfl, ?_⟩) (by assumption) ?_
        rotate_left
        · (intro w hSw; (try dsimp only at hSw); go_simp) <;> (first | done | with_reducible rfl | rfl)
        try simp only [Act.put, List.setIfInBounds_toArray, List.set_cons_zero, List.set_cons_succ]
        refine wpAnyH_take (i := 2) (oi := { dst := some 18, op := _, type := _, pos := _, after := _, guard := _ }) (v := ?_) rfl (by kernel_rfl) (by kernel_rfl) (by kernel_rfl) (fun _ _ _ h => h) (Or.inl ⟨by rfl, ?_⟩) (by assumption) ?_
        rotate_left
        · (intro w hSw; (try dsimp only at hSw); go_simp) <;> (first | done | with_reducible rfl | rfl)
        try simp only [Act.put, List.setIfInBounds_toArray, List.set_cons_zero, List.set_cons_succ]
        refine wpAnyH_take (i := 5) (oi := { dst := some 21, op := _, type := _, pos := _, after := _, guard := _ }) (v := ?_) rfl (by kernel_rfl) (by kernel_rfl) (by kernel_rfl) (fun _ _ _ h => h) (Or.inl ⟨by rfl, ?_⟩) (by assumption) ?_
        rotate_left
        · (intro w hSw; (try dsimp only at hSw); go_simp) <;> (first | done | with_reducible rfl | rfl)
        try simp only [Act.put, List.setIfInBounds_toArray, List.set_cons_zero, List.set_cons_succ]
        refine wpAnyH_take (i := 6) (oi := { dst := some 22, op := _, type := _, pos := _, after := _, guard := _ }) (v := ?_) rfl (by kernel_rfl) (by kernel_rfl) (by kernel_rfl) (fun _ _ _ h => h) (Or.inl ⟨by rfl, ?_⟩) (by assumption) ?_
        rotate_left
        · (intro w hSw; (try dsimp only at hSw); go_simp) <;> (first | done | with_reducible rfl | rfl)
        try simp only [Act.put, List.setIfInBounds_toArray, List.set_cons_zero, List.set_cons_succ]
        refine wpAnyH_take (i := 10) (oi := { dst := some 26, op := _, type := _, pos := _, after := _, guard := _ }) (v := ?_) rfl (by kernel_rfl) (by kernel_rfl) (by kernel_rfl) (fun _ _ _ h => h) (Or.inl ⟨by rfl, ?_⟩) (by assumption) ?_
        rotate_left
        · (intro w hSw; (try dsimp only at hSw); go_simp) <;> (first | done | with_reducible rfl | rfl)
        try simp only [Act.put, List.setIfInBounds_toArray, List.set_cons_zero, List.set_cons_succ]
        refine wpAnyH_take (i := 11) (oi := { dst := some 27, op := _, type := _, pos := _, after := _, guard := _ }) (v := ?_) rfl (by kernel_rfl) (by kernel_rfl) (by kernel_rfl) (fun _ _ _ h => h) (Or.inl ⟨by rfl, ?_⟩) (by assumption) ?_
        rotate_left
        · (intro w hSw; (try dsimp only at hSw); go_simp) <;> (first | done | with_reducible rfl | rfl)
        try simp only [Act.put, List.setIfInBounds_toArray, List.set_cons_zero, List.set_cons_succ]
        refine wpAnyH_ready (rs := [3]) (by kernel_rfl) (by simp) ?_
        refine AllReadyH.cons (o := { dst := some 19, op := _, type := _, pos := _, after := _, guard := _ }) rfl (fun K hK => ?_) AllReadyH.nil
        go_simp
        refine (q0 wd).mono ?_
        rintro e wk1 ⟨rfl, hb1⟩
        have E1 : Ext wB wk1 := Ext.trans E0 hb1
        refine hK.out _ _ (by first | exact SKP.out _ E1 | (dsimp only; exact SKP.out _ E1)) (fun hHeld => ?_)
        clear hK K
        try simp only [Act.put, List.setIfInBounds_toArray, List.set_cons_zero, List.set_cons_succ]
        refine wpAnyH_take (i := 4) (oi := { dst := some 20, op := _, type := _, pos := _, after := _, guard := _ }) (v := ?_) rfl (by kernel_rfl) (by kernel_rfl) (by kernel_rfl) (fun _ _ _ h => h) (Or.inl ⟨by rfl, ?_⟩) (by assumption) ?_
        rotate_left
        · (intro w hSw; (try dsimp only at hSw); go_simp) <;> (first | done | with_reducible rfl | rfl)
        try simp only [Act.put, List.setIfInBounds_toArray, List.set_cons_zero, List.set_cons_succ]
        refine wpAnyH_ready (rs := [7]) (by kernel_rfl) (by simp) ?_
        refine AllReadyH.cons (o := { dst := some 23, op := _, type := _, pos := _, after := _, guard := _ }) rfl (fun K hK => ?_) AllReadyH.nil
        go_simp
        refine (q1 wk1).mono ?_
        rintro e wk2 ⟨rfl, hb2⟩
        have E2 : Ext wB wk2 := Ext.trans E1 hb2
        refine hK.out _ _ (by first | exact SKP.out _ E2 | (dsimp only; exact SKP.out _ E2)) (fun hHeld => ?_)
        clear hK K
        try simp only [Act.put, List.setIfInBounds_toArray, List.set_cons_zero, List.set_cons_succ]
        refine wpAnyH_take (i := 8) (oi := { dst := some 24, op := _, type := _, pos := _, after := _, guard := _ }) (v := ?_) rfl (by kernel_rfl) (by kernel_rfl) (by kernel_rfl) (fun _ _ _ h => h) (Or.inl ⟨by rfl, ?_⟩) (by assumption) ?_
        rotate_left
        · (intro w hSw; (try dsimp only at hSw); go_simp) <;> (first | done | with_reducible rfl | rfl)
        try simp only [Act.put, List.setIfInBounds_toArray, List.set_cons_zero, List.set_cons_succ]
        refine wpAnyH_take (i := 9) (oi := { dst := some 25, op := _, type := _, pos := _, after := _, guard := _ }) (v := ?_) rfl (by kernel_rfl) (by kernel_rfl) (by kernel_rfl) (fun _ _ _ h => h) (Or.inl ⟨by rfl, ?_⟩) (by assumption) ?_
        rotate_left
        · (intro w hSw; (try dsimp only at hSw); go_simp) <;> (first | done | with_reducible rfl | rfl)
        try simp only [Act.put, List.setIfInBounds_toArray, List.set_cons_zero, List.set_cons_succ]
        refine wpAnyH_ready (rs := [12]) (by kernel_rfl) (by simp) ?_
        refine AllReadyH.cons (o := { dst := some 28, op := _, type := _, pos := _, after := _, guard := _ }) rfl (fun K hK => ?_) AllReadyH.nil
        go_simp
        refine (q2 wk2).mono ?_
        rintro e wk3 ⟨rfl, hb3⟩
        have E3 : Ext wB wk3 := Ext.trans E2 hb3
        refine hK.out _ _ (by first | exact SKP.out _ E3 | (dsimp only; exact SKP.out _ E3)) (fun hHeld => ?_)
        clear hK K
        try simp only [Act.put, List.setIfInBounds_toArray, List.set_cons_zero, List.set_cons_succ]
        refine wpAnyH_take (i := 13) (oi := { dst := some 29, op := _, type := _, pos := _, after := _, guard := _ }) (v := ?_) rfl (by kernel_rfl) (by kernel_rfl) (by kernel_rfl) (fun _ _ _ h => h) (Or.inl ⟨by rfl, ?_⟩) (by assumption) ?_
        rotate_left
        · (intro w hSw; (try dsimp only at hSw); go_simp) <;> (first | done | with_reducible rfl | rfl)
        try simp only [Act.put, List.setIfInBounds_toArray, List.set_cons_zero, List.set_cons_succ]
        refine wpAnyH_take (i := 14) (oi := { dst := some 30, op := _, type := _, pos := _, after := _, guard := _ }) (v := ?_) rfl (by kernel_rfl) (by kernel_rfl) (by kernel_rfl) (fun _ _ _ h => h) (Or.inl ⟨by rfl, ?_⟩) (by assumption) ?_
        rotate_left
        · (intro w hSw; (try dsimp only at hSw); go_simp) <;> (first | done | with_reducible rfl | rfl)
        try simp only [Act.put, List.setIfInBounds_toArray, List.set_cons_zero, List.set_cons_succ]
        refine wpAnyH_take (i := 15) (oi := { dst := some 31, op := _, type := _, pos := _, after := _, guard := _ }) (v := ?_) rfl (by kernel_rfl) (by kernel_rfl) (by kernel_rfl) (fun _ _ _ h => h) (Or.inl ⟨by rfl, ?_⟩) (by assumption) ?_
        rotate_left
        · (intro w hSw; (try dsimp only at hSw); go_simp) <;> (first | done | with_reducible rfl | rfl)
        try simp only [Act.put, List.setIfInBounds_toArray, List.set_cons_zero, List.set_cons_succ]
        refine wpAnyH_take (i := 16) (oi := { dst := some 4, op := _, type := _, pos := _, after := _, guard := _ }) (v := ?_) rfl (by kernel_rfl) (by kernel_rfl) (by kernel_rfl) (fun _ _ _ h => h) (Or.inl ⟨by rfl, ?_⟩) (by assumption) ?_
        rotate_left
        · (intro w hSw; (try dsimp only at hSw); go_simp) <;> (first | done | with_reducible rfl | rfl)
        try simp only [Act.put, List.setIfInBounds_toArray, List.set_cons_zero, List.set_cons_succ]
        refine wpAnyH_done (by kernel_rfl) ?_ _
        refine NoPanic.normal ?_
        go_wp2_with (fail)
        go_roundw
        case rel => exact ⟨k + 1, by omega, by go_num, by rw [HSF.out], hEx.trans E3⟩
        case measure => simp [intOf]; omega
      · obtain rfl : k = n := by omega
        clear hcell
        go_wp2_with (fail)
        go_ret2
        exact ⟨rfl, (by repeat (first | exact Ext.refl _ | assumption | refine Ext.alloc ?_ _ | refine Ext.drew ?_ | refine Ext.drewN ?_ _ | refine Ext.setCell ?_ (by first | exact Nat.le_refl _ | (simp; done) | (dsimp only; omega) | (simp only [World.size_alloc, World.size_setCell]; omega)) _ | refine Ext.trans ?_ (by assumption)))⟩

def PowTab (w : World) : Prop := Go.Lib.TabIs Tryd.prog w "internal/strconv.uint64pow10" .u64 Go.Lib.pow10Tab
theorem pow_glob : Tryd.prog.globalNamed "internal/strconv.uint64pow10" = some 0 := by kernel_rfl
theorem PowTab.ext {w w' : World} (h : PowTab w) (e : Ext w w') : PowTab w' := Joins.var_stays pow_glob h e (Nat.le_refl _)
theorem info_str : (Tryd.prog.info? 9).map (fun i => (i.zero, i.size, i.bytes)) = some (some (.string ⟨#[]⟩), 1, 16) := by kernel_rfl
theorem ext_grow (w : World) (k : Nat) (os : Array Obj) : Ext w (Go.Sort.grow (w.drewN k) os) :=
  ((Ext.refl w).drewN k).of_grown ⟨rfl, rfl, rfl, by simp, fun i hi _ => Go.Sort.heap_grow_old (w.drewN k) os hi⟩
theorem itoa_pos {x : Int} (h : 0 ≤ x) : Go.Lib.itoa x = nat x := by
  obtain ⟨u, rfl⟩ := Int.eq_ofNat_of_zero_le h
  rw [itoa_nat]
  rfl
/-- strings -/
def strs (z : List Int) : List ByteArray := z.map fun x => ⟨(nat x).toArray⟩
theorem strs_data (z : List Int) : (strs z).map (·.data.toList) = z.map nat := by simp [strs]

set_option maxRecDepth 100000 in
set_option maxHeartbeats 2000000 in
theorem joinNumbers_any (v : Value) (n : Nat) (z : List Int) (w : World) (h : IntRow .i64 1 w v n z) (hn : n ≤ 1000) (hz : ∀ x ∈ z, 0 ≤ x ∧ x ≤ 999) (hj : (Go.Lib.join (z.map nat) [32]).length ≤ 100000) (ht : PowTab w) :
    Calls Tryd.prog 45 #[v, .string ⟨#[32]⟩] w fun e w' => e = .returned (.string ⟨(Go.Lib.join (z.map nat) [32]).toArray⟩) ∧ Ext w w' := by
  obtain ⟨i0, hi, hz0, hz1, hz2⟩ := info_parts info_str
  obtain ⟨hl, hm, hwf, a, c, rfl, hnc, hcm, hcell⟩ := h
  have hn9 : n ≤ 9223372036854775807 := by omega
  clear hwf
  have HJ := hid hj
  have HZ := hid hz
  have HT := hid ht
  clear hj hz ht
  go_enter Tryd.func45, Tryd.ntmps45
  go_wp2_with (first | (at_make; refine wpList_make_full _ rfl _ _ 84 rfl w.heap.size 9 i0 _ 1 Tryd.underlying84 hi hz0 hz1 .i64 .i64 _ _ n rfl rfl rfl rfl (by rw [hz2]; omega) (by unfold maxLen; omega) (Nat.le_refl _) ?_; intro w1 hown hgrow))
  go_loopw [13] (fun i wr => ∃ (k : Nat) (xs : List Value), k ≤ n ∧ i = .int .i64 (k : Int) ∧ wr.ownsRow w.heap.size 9 1 (.slice (some ⟨w.heap.size, 0, none⟩) n n) n xs ∧ (∀ j, j < k → xs[j]? = ((strs z)[j]?).map Value.string) ∧ Ext w wr)
    (fun i _ => n - (intOf i).toNat)
  case atStart => exact ⟨0, _, Nat.zero_le _, rfl, hown, by simp, (Ext.refl _).of_grown hgrow⟩
  case round =>
    obtain ⟨k, xs, hk, rfl, hrow, hpre, hE⟩ := hrel
    clear hown hgrow
    by_cases hlt : k < n
    · have hne : ¬ n = 0 := by omega
      obtain ⟨b, o, rfl, hb, hc⟩ := hcell.resolve_left hne
      obtain ⟨x0, hx0⟩ : ∃ x, x = z.getD k 0 := ⟨_, rfl⟩
      have s0 : wr.cell? ⟨b, o + k, none⟩ = some (.int .i64 x0) := by rw [(Ext.cells hE).1 _ _ hb, hc _ (by omega), hx0]
      have hzk : z[k]? = some x0 := by rw [hx0, List.getD_eq_getElem?_getD, List.getElem?_eq_getElem (show k < z.length by omega)]; rfl
      have hx := HZ.out x0 (List.mem_of_getElem? hzk)
      have HSK := hid (show (strs z)[k]? = some ⟨(nat x0).toArray⟩ by unfold strs; rw [List.getElem?_map, hzk]; rfl)
      have HP := hid hpre
      clear hx0 hc hcell hpre hzk
      go_wp2_with (fail)
      refine (Tryd.strconv_Itoa x0 (by omega) (by omega) _ (HT.out.ext hE)).mono ?_
      rw [itoa_pos hx.1]
      rintro e w2 ⟨rfl, nq, os, rfl⟩
      have hb2 := ext_grow wr nq os
      generalize Go.Sort.grow (wr.drewN nq) os = w2 at hb2 ⊢
      have hrow2 := row_ext hrow hb2
      obtain ⟨u0, c0, d0⟩ := row_cell hrow2 k (by omega)
      have f0 := hrow2.frozenAt k
      go_wp2_with (fail)
      go_roundw
      case rel =>
        have q0 := (hrow2.stored k (.string ⟨(nat x0).toArray⟩)).1
        refine ⟨k + 1, _, by omega, by go_num, q0, fun j hj => ?_, Ext.setCell (hE.trans hb2) (Nat.le_refl _) _⟩
        simp only [List.getElem?_set, hrow2.1]
        by_cases e0 : k = j
        · subst e0
          rw [if_pos rfl, if_pos (by omega), HSK.out]
          rfl
        · rw [if_neg e0]
          exact HP.out j (by omega)
      case measure => simp [intOf]; omega
    · obtain rfl : k = n := by omega
      have hsl : (strs z).length = k := by simp [strs]; omega
      have hcl : ∀ (j : Nat) x, (strs z)[j]? = some x → wr.cell? ⟨w.heap.size, 0 + j, none⟩ = some (.string x) := fun j x hx => by
        have hj : j < k := by
          have := (List.getElem?_eq_some_iff.1 hx).1
          omega
        rw [Nat.zero_add, hrow.cellAt j (by omega), hpre j hj, hx]
        rfl
      have con := Tryd.strings_Join w.heap.size 0 k (strs z) ⟨#[32]⟩ wr hcl (hrow.lt _ rfl).2 (by omega) (by omega) (by rw [strs_data]; exact Nat.le_trans HJ.out (by omega))
      rw [hsl, strs_data] at con
      have CON := hid con
      clear con hcl hpre hcell
      go_wp2_with (fail)
      refine CON.out.mono ?_
      rintro e w3 ⟨rfl, hb3⟩
      have hb3 : Ext wr w3 := hb3
      go_wp2_with (fail)
      go_ret
      exact ⟨rfl, hE.trans hb3⟩

theorem bld_ext {B b : Nat} {bs : List Value} {w w' : World} (h : Go.Lib.IsBuilder 64 5 B b bs w) (e : Ext w w') : Go.Lib.IsBuilder 64 5 B b bs w' := by
  have key : ∀ p, Go.Lib.BuilderAt 64 5 B b p bs w → Go.Lib.BuilderAt 64 5 B b p bs w' := fun p h => by
    have hlt := h.lt
    obtain ⟨h1, v, h2, h3, h4⟩ := h
    exact ⟨h1, v, by rw [Below.block e b hlt]; exact h2, row_ext h3 e, h4⟩
  exact h.imp (key _) (key _)
theorem bld_lt {B b : Nat} {bs : List Value} {w : World} (h : Go.Lib.IsBuilder 64 5 B b bs w) : B ≤ b ∧ b < w.heap.size := by
  rcases h with h | h <;> exact ⟨h.1, h.lt⟩
theorem lit_ints3 (w : World) (x0 x1 x2 : Int) (h0 : (Lit.int .i64 x0).wf = true) (h1 : (Lit.int .i64 x1).wf = true) (h2 : (Lit.int .i64 x2).wf = true) : IntRow .i64 1 (w.alloc (.cells #[.int .i64 x0, .int .i64 x1, .int .i64 x2] 3)) (.slice (some ⟨w.heap.size, 0, none⟩) 3 3) 3 [x0, x1, x2] := by
  refine ⟨rfl, by unfold maxLen; omega, fun z hz => ?_, some ⟨w.heap.size, 0, none⟩, 3, rfl, Nat.le_refl _, by unfold maxLen; omega, .inr ⟨w.heap.size, 0, rfl, by simp, fun j hj => ?_⟩⟩
  · simp only [List.mem_cons, List.not_mem_nil, or_false] at hz
    rcases hz with rfl | rfl | rfl
    · exact h0
    · exact h1
    · exact h2
  · match j, hj with
    | 0, _ => simp [go_sem]
    | 1, _ => simp [go_sem]
    | 2, _ => simp [go_sem]
    | j + 3, hj => omega

theorem wf_small {z : Int} (h : -9223372036854775808 ≤ z ∧ z ≤ 9223372036854775807) : (Lit.int .i64 z).wf = true := by
  simp only [Lit.wf, IntKind.min, IntKind.max, IntKind.signed, IntKind.bits]
  simp
  omega
theorem line_eq (a b c : List UInt8) : Go.Lib.join [a, b, c] [32] ++ [10] = a ++ [32] ++ b ++ [32] ++ c ++ [10] := by
  rw [Go.Lib.join_cons]
  simp [Go.Lib.joinTail]

set_option maxRecDepth 100000 in
set_option maxHeartbeats 4000000 in
theorem iShiftsText_any (v : Value) (n : Nat) (z : List Int) (w : World) (h : IntRow .i64 3 w v n z) (ht : PowTab w) :
    Calls Tryd.prog 20 #[v] w fun e w' => e = .returned (.tuple #[.string (stS z n), .bool (okSs z n)]) ∧ Ext w w' := by
  have HPT := hid ht
  clear ht
  cases hok : okSs z n with
  | false =>
    have HOK := hid hok
    rw [show stS z n = ⟨#[]⟩ by unfold stS; rw [hok]; rfl]
    clear hok
    go_enter Tryd.func20, Tryd.ntmps20
    go_wp2_with (fail)
    refine (iAreShifts_any v n z w h).mono ?_
    rw [HOK.out]
    rintro e w1 ⟨rfl, hb1⟩
    go_wp2_with (fail)
    go_ret2
    exact ⟨rfl, (by repeat (first | exact Ext.refl _ | assumption | refine Ext.alloc ?_ _ | refine Ext.drew ?_ | refine Ext.drewN ?_ _ | refine Ext.setCell ?_ (by first | exact Nat.le_refl _ | (simp; done) | (dsimp only; omega) | (simp only [World.size_alloc, World.size_setCell]; omega)) _ | refine Ext.trans ?_ (by assumption)))⟩
  | true =>
    have HOK := hid hok
    rw [show stS z n = ⟨(txT z n).toArray⟩ by unfold stS; rw [hok]; rfl]
    have hn60 := okSs_n hok
    clear hok
    have hh := h
    obtain ⟨hl, hm, hwf, a, c, rfl, hnc, hcm, hcell⟩ := h
    unfold maxLen at hm
    clear hwf
    go_enter Tryd.func20, Tryd.ntmps20
    go_wp2_with (fail)
    refine (iAreShifts_any _ n z w hh).mono ?_
    rw [HOK.out]
    rintro e w1 ⟨rfl, hb1⟩
    clear hh
    go_wp2_with (fail)
    have hfr := Go.Lib.fresh_isBuilder 64 5 w1
    have hEa : Ext w (w1.alloc (.cells #[.pointer none, .slice none 0 0] 64)) := hb1.alloc _
    obtain ⟨wo, hwo⟩ : ∃ W, W = w1.alloc (.cells #[.pointer none, .slice none 0 0] 64) := ⟨_, rfl⟩
    rw [← hwo] at hfr hEa ⊢
    obtain ⟨bB, hbB⟩ : ∃ g, g = w1.heap.size := ⟨_, rfl⟩
    rw [← hbB] at hfr ⊢
    have hwB : w.heap.size ≤ bB := by rw [hbB]; exact hb1.size
    clear hwo hbB hb1
    go_loopw [12] (fun i wr => ∃ (k : Nat), k ≤ n ∧ i = .int .i64 (k : Int) ∧ Go.Lib.IsBuilder 64 5 bB bB (Go.Lib.byteCells (txT z k)) wr ∧ Ext w wr)
      (fun i _ => n - (intOf i).toNat)
    case atStart => exact ⟨0, Nat.zero_le _, rfl, hfr, hEa⟩
    case round =>
      obtain ⟨k, hk, rfl, hbl, hE⟩ := hrel
      clear hfr hEa
      by_cases hlt : k < n
      · obtain ⟨b, o, rfl, hb, hc⟩ := hcell.resolve_left (by omega)
        obtain ⟨x0, hx0⟩ : ∃ x, x = z.getD (k * 3) 0 := ⟨_, rfl⟩
        have s0 : wr.cell? ⟨b, o + k * 3, none⟩ = some (.int .i64 x0) := by rw [(Ext.cells hE).1 _ _ hb, show o + k * 3 = o + (k * 3) by omega, hc _ (by omega), hx0]
        have H0 := hid hx0
        clear hx0
        obtain ⟨x1, hx1⟩ : ∃ x, x = z.getD (k * 3 + 1) 0 := ⟨_, rfl⟩
        have s1 : wr.cell? ⟨b, o + k * 3 + 1, none⟩ = some (.int .i64 x1) := by rw [(Ext.cells hE).1 _ _ hb, show o + k * 3 + 1 = o + (k * 3 + 1) by omega, hc _ (by omega), hx1]
        have H1 := hid hx1
        clear hx1
        obtain ⟨x2, hx2⟩ : ∃ x, x = z.getD (k * 3 + 2) 0 := ⟨_, rfl⟩
        have s2 : wr.cell? ⟨b, o + k * 3 + 2, none⟩ = some (.int .i64 x2) := by rw [(Ext.cells hE).1 _ _ hb, show o + k * 3 + 2 = o + (k * 3 + 2) by omega, hc _ (by omega), hx2]
        have H2 := hid hx2
        clear hx2
        have sb := okSs_bd HOK.out k hlt
        have hll := linT_len HOK.out hlt
        have htl := txT_len HOK.out k hk
        have E0 := hid (show shOp z k = x0 from H0.out.symm)
        have E1 := hid (show shFr z k = x1 from H1.out.symm)
        have E2 := hid (show shTo z k = x2 from H2.out.symm)
        have HLN := hid (show linT z k = Go.Lib.join [nat x0, nat x1, nat x2] [32] ++ [10] by unfold linT; rw [E0.out, E1.out, E2.out, line_eq])
        rw [E0.out, E1.out, E2.out] at sb
        obtain ⟨sb1, sb2, sb3, sb4, sb5⟩ := sb
        have HBL := hid hbl
        have wx0 : (Lit.int .i64 x0).wf = true := wf_small (by omega)
        have wx1 : (Lit.int .i64 x1).wf = true := wf_small (by omega)
        have wx2 : (Lit.int .i64 x2).wf = true := wf_small (by omega)
        clear hc hcell H0 H1 H2 E0 E1 E2 hbl
        rw [HLN.out, List.length_append, List.length_singleton] at hll
        obtain ⟨JL, hJL⟩ : ∃ l, l = Go.Lib.join [nat x0, nat x1, nat x2] [32] := ⟨_, rfl⟩
        have HJL := hid hJL
        rw [← hJL] at hll HLN
        clear hJL
        have f1 := fun w => add_str w JL [10] (by simp; omega)
        rw [← HLN.out] at f1
        obtain ⟨SL, hSL⟩ : ∃ s : ByteArray, s = ⟨(linT z k).toArray⟩ := ⟨_, rfl⟩
        obtain ⟨SJ, hSJ⟩ : ∃ s : ByteArray, s = ⟨JL.toArray⟩ := ⟨_, rfl⟩
        rw [← hSL, ← hSJ] at f1
        have HSL := hid hSL
        have HSJ := hid hSJ
        clear hSL hSJ
        go_wp2_with (fail)
        have hA : Ext wr ((wr.alloc (.cells #[.int .i64 x0, .int .i64 x1, .int .i64 x2] 42)).alloc (.cells #[.int .i64 x0, .int .i64 x1, .int .i64 x2] 3)) := (by repeat (first | exact Ext.refl _ | assumption | refine Ext.alloc ?_ _ | refine Ext.drew ?_ | refine Ext.drewN ?_ _ | refine Ext.setCell ?_ (by first | exact Nat.le_refl _ | (simp; done) | (dsimp only; omega) | (simp only [World.size_alloc, World.size_setCell]; omega)) _ | refine Ext.trans ?_ (by assumption)))
        have hrow := lit_ints3 (wr.alloc (.cells #[.int .i64 x0, .int .i64 x1, .int .i64 x2] 42)) x0 x1 x2 wx0 wx1 wx2
        rw [World.size_alloc] at hrow
        generalize (wr.alloc (.cells #[.int .i64 x0, .int .i64 x1, .int .i64 x2] 42)).alloc (.cells #[.int .i64 x0, .int .i64 x1, .int .i64 x2] 3) = wa at hA hrow ⊢
        refine (joinNumbers_any _ 3 [x0, x1, x2] wa hrow (by omega) (by intro x hx; simp at hx; omega) (by have := HJL.out; simp only [List.map_cons, List.map_nil]; rw [← this]; omega) (HPT.out.ext (hE.trans hA))).mono ?_
        rw [show Go.Lib.join ([x0, x1, x2].map nat) [32] = JL from HJL.out.symm, ← HSJ.out]
        rintro e w2 ⟨rfl, hb2⟩
        have HB2 := hid (bld_ext HBL.out (hA.trans hb2))
        have hE2 := (hE.trans hA).trans hb2
        have hbw := bld_lt HB2.out
        clear HBL hA hb2 hrow hE s0 s1 s2
        go_wp2_with (fail)
        refine (Tryd.Builder_WriteString bB bB _ SL w2 HB2.out (by rw [HSL.out]; simp [Go.Lib.byteCells, ByteArray.size]; rw [HLN.out]; simp; omega) (by omega)).mono ?_
        rintro e w3 ⟨rfl, hb3, hb4⟩
        have hE3 : Ext w w3 := Below.trans hE2 (hb4.mono hwB)
        have HB3 := hid (show Go.Lib.IsBuilder 64 5 bB bB (Go.Lib.byteCells (txT z (k + 1))) w3 from .inr (by
          have e : Go.Lib.byteCells (txT z k) ++ Go.Lib.strCells SL = Go.Lib.byteCells (txT z (k + 1)) := by rw [HSL.out, txT]; simp [Go.Lib.byteCells, Go.Lib.strCells]
          rw [← e]
          exact hb3))
        clear hb3 hb4 hE2 HB2
        go_wp2_with (fail)
        go_roundw
        case rel => exact ⟨k + 1, by omega, by go_num, HB3.out, hE3⟩
        case measure => simp [intOf]; omega
      · obtain rfl : k = n := by omega
        have HBL := hid hbl
        have hbw := bld_lt hbl
        clear hcell hbl
        go_wp2_with (fail)
        refine (Tryd.Builder_String_any bB bB (txT z k) _ HBL.out (by omega)).mono ?_
        rintro e w3 ⟨rfl, hb3⟩
        have hb3 : Ext w w3 := Below.trans hE (hb3.mono hwB)
        go_wp2_with (fail)
        go_ret2
        exact ⟨rfl, hb3⟩

end Go.Proofs.YtedkffdkhnfoiaaDoor