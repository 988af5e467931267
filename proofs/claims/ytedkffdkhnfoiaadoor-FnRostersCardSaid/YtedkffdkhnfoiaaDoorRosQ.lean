/- All that the law of rosters asks of each question, by letters. No condition. -/
import Derived.Test.YtedkffdkhnfoiaaDoorRosP
import Derived.Test.YtedkffdkhnfoiaaDoorStB
namespace Go.Proofs.YtedkffdkhnfoiaaDoor
open Go.RowKit
set_option linter.unusedSimpArgs false
set_option linter.unusedVariables false

theorem openAll (v : Value) (n : Nat) (z : List Int) (p : Int) : ∃ (O : List (List Int)) (ok : Bool), (∀ w, IntRow .i64 3 w v n z → Calls Tryd.prog 6 #[v, .int .i64 p] w fun e w' => ∃ v' gs, e = .returned (.tuple #[v', .bool ok]) ∧ Lists w' w.heap.size v' 2 gs O ∧ Ext w w') ∧ (∀ w, IntRow .i64 3 w v n z → Calls Tryd.prog 7 #[v, .int .i64 p] w fun e w' => ∃ v' gs, e = .returned (.tuple #[v', .bool ok]) ∧ Lists w' w.heap.size v' 2 gs O ∧ Ext w w') ∧ (O.length ≤ 1000 ∧ ∀ x ∈ O, ∀ y ∈ x, (Lit.int .i64 y).wf = true) ∧
    (ok = true → okSs z n = true ∧ (1 ≤ p ∧ p ≤ 30) ∧ (∀ i, i < O.length → 0 ≤ loZ O i ∧ loZ O i < hiZ O i ∧ hiZ O i ≤ 168) ∧ (∀ i, i + 1 < O.length → hiZ O i < loZ O (i + 1)) ∧ ∀ x : Nat, x < 168 → ((∃ i, i < O.length ∧ loZ O i ≤ x ∧ x < hiZ O i) ↔ ((onL z (x : Int) n).length : Int) < p)) := by
  refine ⟨opV z n p, opC z n p, fun w h => iOpenHours_any v n z p w h, fun w h => sOpenHours_any v n z p w h, opV_inv z n p, fun h => ?_⟩
  have e : opV z n p = opZ (few z n p) 168 := by unfold opV; rw [if_pos h]
  unfold opC at h
  rw [Bool.and_eq_true, inR_iff] at h
  obtain ⟨h1, h2⟩ := h
  rw [e]
  obtain ⟨q1, q2⟩ := opZ_law (few z n p) 168
  refine ⟨h1, h2, fun i hi => ?_, q1, fun x hx => ?_⟩
  · have := opZ_bd (few z n p) 168 hi
    exact ⟨this.1, this.2.1, this.2.2.1⟩
  · rw [q2 x hx, onL_length h1 (x : Int) n (Nat.le_refl _)]
    unfold few
    exact decide_eq_true_iff
theorem dutyAll (v : Value) (n : Nat) (z : List Int) (p : Int) : ∃ (H N FR TO : Int) (one three : Bool), (∀ w, IntRow .i64 3 w v n z → Calls Tryd.prog 9 #[v, .int .i64 p] w fun e w' => e = .returned (.tuple #[.int .i64 H, .int .i64 N, .bool one]) ∧ Ext w w') ∧ (∀ w, IntRow .i64 3 w v n z → Calls Tryd.prog 10 #[v, .int .i64 p] w fun e w' => e = .returned (.tuple #[.int .i64 H, .int .i64 N, .bool one]) ∧ Ext w w') ∧ (∀ w, IntRow .i64 3 w v n z → Calls Tryd.prog 11 #[v, .int .i64 p] w fun e w' => e = .returned (.tuple #[.int .i64 FR, .int .i64 TO, .bool three]) ∧ Ext w w') ∧ (∀ w, IntRow .i64 3 w v n z → Calls Tryd.prog 12 #[v, .int .i64 p] w fun e w' => e = .returned (.tuple #[.int .i64 FR, .int .i64 TO, .bool three]) ∧ Ext w w') ∧ (three = true → one = true) ∧
    (one = true → okSs z n = true ∧ (cnB (onB z n p) 168 : Int) = H ∧ (0 ≤ H ∧ H ≤ 168) ∧ N ≤ H ∧ three = decide (0 < H) ∧ (0 ≤ FR ∧ FR ≤ 168 ∧ 0 ≤ TO ∧ TO ≤ 168) ∧ (three = true → TO - FR ≤ H ∧ FR < TO ∧ ∀ x : Int, FR ≤ x → x < TO → onB z n p x = true)) := by
  refine ⟨dHV z n p, dNV z n p, ldFV z n p, ldTV z n p, dC z n p, ldBV z n p, fun w h => iDutyHours_any v n z p w h, fun w h => sDutyHours_any v n z p w h, fun w h => iLongestDuty_any v n z p w h, fun w h => sLongestDuty_any v n z p w h, fun h => ?_, fun h => ?_⟩
  · unfold ldBV at h
    rw [Bool.and_eq_true] at h
    exact h.1
  · have hl : ldC z n p = true := h
    have e1 : dHV z n p = dutyH z p n := by unfold dHV; rw [if_pos h]
    have e2 : dNV z n p = dutyN z p n := by unfold dNV; rw [if_pos h]
    have e3 : ldFV z n p = (ldI z p n).1 := by unfold ldFV; rw [if_pos hl]
    have e4 : ldTV z n p = (ldI z p n).2.1 := by unfold ldTV; rw [if_pos hl]
    have e5 : ldBV z n p = decide (0 < (ldI z p n).2.1) := by unfold ldBV; rw [hl]; rfl
    rw [e1, e2, e3, e4, e5]
    unfold dC at h
    rw [Bool.and_eq_true] at h
    have ok := h.1
    have hc := duty_cnt ok p n (Nat.le_refl _)
    have hcl := cnB_le (onB z n p) 168
    have hb := ldI_bd ok p n (Nat.le_refl _)
    obtain ⟨hd1, hd2⟩ := ld_end ok p
    obtain ⟨⟨a1, a2, a3, a4, a5⟩, a6, a7, a8⟩ := ldS_law (onB z n p) 168
    rw [hd1, hd2] at a4 a6
    rw [hd2] at a2 a8
    rw [hd1] at a3
    have hpos : 0 < dutyH z p n ↔ 0 < (ldI z p n).2.1 := by
      constructor
      · intro hh
        have := a8 (cnB_pos 168 (by omega))
        omega
      · intro hh
        have hlt : (ldI z p n).1 < (ldI z p n).2.1 := by omega
        have hx := a6 (ldI z p n).1 (Int.le_refl _) (by omega)
        obtain ⟨f, hf⟩ := Int.eq_ofNat_of_zero_le a3
        have := cnB_run (B := onB z n p) (a := f) (b := f + 1) (by omega) 168 (by omega) (fun x h1 h2 => by
          obtain rfl : x = f := by omega
          rw [hf] at hx
          exact hx)
        omega
    refine ⟨ok, hc, ⟨by omega, by omega⟩, duty_night ok p n (Nat.le_refl _), ?_, ⟨hb.1, hb.2.1, hb.2.2.1, hb.2.2.2.1⟩, fun h3 => ?_⟩
    · exact decide_eq_decide.2 hpos.symm
    · rw [decide_eq_true_eq] at h3
      have hlt : (ldI z p n).1 < (ldI z p n).2.1 := by omega
      refine ⟨?_, hlt, fun x h1 h2 => a6 x h1 (by omega)⟩
      obtain ⟨f, hf⟩ := Int.eq_ofNat_of_zero_le a3
      obtain ⟨g, hg⟩ := Int.eq_ofNat_of_zero_le hb.2.2.1
      have := cnB_run (B := onB z n p) (a := f) (b := g) (by omega) 168 (by omega) (fun x h1 h2 => a6 x (by omega) (by omega))
      omega
theorem onAll (v : Value) (n : Nat) (z : List Int) (h : Int) : ∃ (L : List Int) (nL : Nat) (ok : Bool), (∀ w, IntRow .i64 3 w v n z → Calls Tryd.prog 14 #[v, .int .i64 h] w fun e w' => ∃ v', e = .returned (.tuple #[v', .bool ok]) ∧ w'.ownsRow w.heap.size 3 1 v' nL (L.map (Value.int .i64)) ∧ Ext w w') ∧ (∀ w, IntRow .i64 3 w v n z → Calls Tryd.prog 15 #[v, .int .i64 h] w fun e w' => ∃ v', e = .returned (.tuple #[v', .bool ok]) ∧ w'.ownsRow w.heap.size 3 1 v' nL (L.map (Value.int .i64)) ∧ Ext w w') ∧ (∀ x ∈ L, (Lit.int .i64 x).wf = true) ∧ nL ≤ 60 := by
  obtain ⟨h1, h2⟩ := odV_inv z n h
  refine ⟨odV z n h, (odV z n h).length, odC z n h, fun w hr => ?_, fun w hr => ?_, h1, h2⟩
  · have := iOnDutyAt_any v n z h w hr
    rwa [Nat.div_one] at this
  · have := sOnDutyAt_any v n z h w hr
    rwa [Nat.div_one] at this
/-- an hour of the week -/
theorem onOk {n : Nat} {z : List Int} {h : Int} (ok : okSs z n = true) (h0 : 0 ≤ h) (h1 : h ≤ 167) (v : Value) : (∀ w, IntRow .i64 3 w v n z → Calls Tryd.prog 14 #[v, .int .i64 h] w fun e w' => ∃ v', e = .returned (.tuple #[v', .bool true]) ∧ w'.ownsRow w.heap.size 3 1 v' (onL z h n).length ((onL z h n).map (Value.int .i64)) ∧ Ext w w') ∧ (∀ w, IntRow .i64 3 w v n z → Calls Tryd.prog 15 #[v, .int .i64 h] w fun e w' => ∃ v', e = .returned (.tuple #[v', .bool true]) ∧ w'.ownsRow w.heap.size 3 1 v' (onL z h n).length ((onL z h n).map (Value.int .i64)) ∧ Ext w w') ∧ (∀ x ∈ onL z h n, (Lit.int .i64 x).wf = true) ∧ (onL z h n).length ≤ 60 := by
  have hc : odC z n h = true := by unfold odC; rw [ok, inR_iff.2 ⟨h0, h1⟩]; rfl
  have e : odV z n h = onL z h n := by unfold odV; rw [if_pos hc]
  obtain ⟨q1, q2⟩ := odV_inv z n h
  rw [e] at q1 q2
  refine ⟨fun w hr => ?_, fun w hr => ?_, q1, q2⟩
  · have := iOnDutyAt_any v n z h w hr
    rwa [Nat.div_one, e, hc] at this
  · have := sOnDutyAt_any v n z h w hr
    rwa [Nat.div_one, e, hc] at this
theorem restAll (v : Value) (n : Nat) (z : List Int) (l : Int) : ∃ (O : List (List Int)) (ok : Bool), (∀ w, IntRow .i64 3 w v n z → Calls Tryd.prog 17 #[v, .int .i64 l] w fun e w' => ∃ v' gs, e = .returned (.tuple #[v', .bool ok]) ∧ Lists w' w.heap.size v' 2 gs O ∧ Ext w w') ∧ (∀ w, IntRow .i64 3 w v n z → Calls Tryd.prog 18 #[v, .int .i64 l] w fun e w' => ∃ v' gs, e = .returned (.tuple #[v', .bool ok]) ∧ Lists w' w.heap.size v' 2 gs O ∧ Ext w w') ∧ (O.length ≤ 1000 ∧ ∀ x ∈ O, ∀ y ∈ x, (Lit.int .i64 y).wf = true) ∧
    (ok = true → okSs z n = true ∧ (0 ≤ l ∧ l ≤ 168) ∧ ∀ i, i < O.length → ∃ a b : Nat, loZ O i = (a : Int) ∧ hiZ O i = (b : Int) ∧ a < b ∧ b < n ∧ shOp z b = shOp z a ∧ 0 < shFr z b - shTo z a ∧ shFr z b - shTo z a < l) := by
  refine ⟨srV z n l, srC z n l, fun w h => iShortRests_any v n z l w h, fun w h => sShortRests_any v n z l w h, srV_inv z n l, fun h => ?_⟩
  have e : srV z n l = srZ z n l n := by unfold srV; rw [if_pos h]
  unfold srC at h
  rw [Bool.and_eq_true, inR_iff] at h
  rw [e]
  refine ⟨h.1, h.2, fun i hi => ?_⟩
  obtain ⟨a, b, h1, h2⟩ := srZ_law z n l n _ (show (srZ z n l n).getD i [] ∈ srZ z n l n by rw [List.getD_eq_getElem?_getD, List.getElem?_eq_getElem hi]; exact List.getElem_mem _)
  refine ⟨a, b, ?_, ?_, h2⟩
  · unfold loZ; rw [h1]; rfl
  · unfold hiZ; rw [h1]; rfl
theorem textAll (v : Value) (n : Nat) (z : List Int) : ∃ (TX : ByteArray) (ok : Bool), (∀ w, IntRow .i64 3 w v n z → PowTab w → Calls Tryd.prog 20 #[v] w fun e w' => e = .returned (.tuple #[.string TX, .bool ok]) ∧ Ext w w') ∧ (∀ w, IntRow .i64 3 w v n z → Calls Tryd.prog 21 #[v] w fun e w' => e = .returned (.tuple #[.string TX, .bool ok]) ∧ Ext w w') ∧ (∀ w, IntRow .i64 3 w v n z → Calls Tryd.prog 24 #[v] w fun e w' => e = .returned (.bool ok) ∧ Ext w w') :=
  ⟨stS z n, okSs z n, fun w h ht => iShiftsText_any v n z w h ht, fun w h => sShiftsText_any v n z w h, fun w h => iAreShifts_any v n z w h⟩
end Go.Proofs.YtedkffdkhnfoiaaDoor