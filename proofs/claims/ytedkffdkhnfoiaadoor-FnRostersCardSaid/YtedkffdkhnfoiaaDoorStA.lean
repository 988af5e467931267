/- The decimal digits of small numbers, as the reference writes them. Condition: below 1000. -/
import Derived.Test.YtedkffdkhnfoiaaDoorShfC
import Derived.Test.YtedkffdkhnfoiaaDoorStShelf
import Derived.Laws.IdiomStrings
import Derived.Laws.Concat
import Derived.Deep.RegionHeld3
namespace Go.Proofs.YtedkffdkhnfoiaaDoor
open Go.RowKit
set_option linter.unusedSimpArgs false
set_option linter.unusedVariables false

theorem dec_one {u : Nat} (h : u < 10) : Go.Lib.decDigits u = [UInt8.ofNat (48 + u)] := by rw [Go.Lib.decDigits, dif_pos h]
theorem dec_more {u : Nat} (h : ¬ u < 10) : Go.Lib.decDigits u = Go.Lib.decDigits (u / 10) ++ [UInt8.ofNat (48 + u % 10)] := by rw [Go.Lib.decDigits, dif_neg h]
theorem dec_len {u : Nat} (h : u < 1000) : (Go.Lib.decDigits u).length ≤ 3 := by
  by_cases h1 : u < 10
  · rw [dec_one h1]; simp
  · rw [dec_more h1]
    by_cases h2 : u / 10 < 10
    · rw [dec_one h2]; simp
    · rw [dec_more h2, dec_one (by omega)]; simp
theorem itoa_nat (u : Nat) : Go.Lib.itoa (u : Int) = Go.Lib.decDigits u := by
  unfold Go.Lib.itoa
  rw [if_neg (by omega), Int.toNat_natCast]

theorem cell_ext {w w' : World} {g : Nat} {v : Value} (h : w.cell? ⟨g, 0, none⟩ = some v ∧ g < w.heap.size) (e : Ext w w') : w'.cell? ⟨g, 0, none⟩ = some v ∧ g < w'.heap.size :=
  ⟨by rw [(Ext.cells e).1 _ _ h.2]; exact h.1, Nat.lt_of_lt_of_le h.2 e.size⟩
theorem alloc_one {w0 : World} (w : World) (v : Value) (t : TypeId) (h : Ext w0 w) : ∃ (W : World) (g : Nat), (W = w.alloc (.cells #[v] t) ∧ g = w.heap.size) ∧ Ext w0 W ∧ (W.cell? ⟨g, 0, none⟩ = some v ∧ g < W.heap.size) :=
  ⟨_, _, ⟨rfl, rfl⟩, h.alloc _, by simp, by simp⟩
theorem conv_one (w : World) (g u : Nat) (hu : u < 10) (B : UInt8) (hB : B = UInt8.ofNat (48 + u)) (h : w.cell? ⟨g, 0, none⟩ = some (.int .u8 (48 + (u : Int)))) : (convert 22 9 (.slice (some ⟨g, 0, none⟩) 1 1)).run Tryd.prog w = .ok (.string ⟨#[B]⟩) w := by
  have kc := run_convert_bytes_back (P := Tryd.prog) w 22 9 5 ⟨g, 0, none⟩ 1 [B] Tryd.underlying22 Tryd.underlying5 Tryd.underlying9 (by
    intro j hj
    obtain rfl : j = 0 := by simpa using hj
    have e : (B.toNat : Int) = 48 + (u : Int) := by rw [hB]; simp; omega
    simp only [List.getElem_cons_zero, e]
    exact h)
  exact kc
set_option maxRecDepth 100000 in
set_option maxHeartbeats 1000000 in
theorem l1Num_one (u : Nat) (hu : u < 10) (w : World) : Calls Tryd.prog 47 #[.int .i64 (u : Int)] w fun e w' => e = .returned (.string ⟨(Go.Lib.decDigits u).toArray⟩) ∧ Ext w w' := by
  have t1 : decide ((u : Int) < 10) = true := by simp; omega
  have kw : IntKind.u8.wrap (48 + (u : Int)) = 48 + (u : Int) := by rw [IntKind.wrap_u8]; omega
  have kw2 : IntKind.i64.wrap (48 + (u : Int)) = 48 + (u : Int) := IntWalk.i64_in _ (by omega)
  rw [dec_one hu]
  obtain ⟨B, hB⟩ : ∃ B, B = UInt8.ofNat (48 + u) := ⟨_, rfl⟩
  rw [← hB]
  have kc := conv_one (w.alloc (.cells #[.int .u8 (48 + (u : Int))] 5)) w.heap.size u hu B hB (by simp)
  clear hB
  go_enter Tryd.func47, Tryd.ntmps47
  go_wp2_with (fail)
  go_ret
  exact ⟨rfl, (by repeat (first | exact Ext.refl _ | assumption | refine Ext.alloc ?_ _ | refine Ext.drew ?_ | refine Ext.drewN ?_ _ | refine Ext.setCell ?_ (by first | exact Nat.le_refl _ | (simp; done) | (dsimp only; omega) | (simp only [World.size_alloc, World.size_setCell]; omega)) _ | refine Ext.trans ?_ (by assumption)))⟩
set_option maxRecDepth 100000 in
set_option maxHeartbeats 4000000 in
theorem l1Num_step (u : Nat) (hu : ¬ u < 10) (hu2 : u < 1000) (w : World) (hc : ∀ w, Calls Tryd.prog 47 #[.int .i64 ((u / 10 : Nat) : Int)] w fun e w' => e = .returned (.string ⟨(Go.Lib.decDigits (u / 10)).toArray⟩) ∧ Ext w w') :
    Calls Tryd.prog 47 #[.int .i64 (u : Int)] w fun e w' => e = .returned (.string ⟨(Go.Lib.decDigits u).toArray⟩) ∧ Ext w w' := by
  have t1 : decide ((u : Int) < 10) = false := by simp; omega
  have d1 : (u : Int).tdiv 10 = ((u / 10 : Nat) : Int) := by rw [Int.tdiv_eq_ediv_of_nonneg (by omega)]; omega
  have d2 : (u : Int).tmod 10 = ((u % 10 : Nat) : Int) := by rw [Int.tmod_eq_emod_of_nonneg (by omega)]; omega
  have d3 : IntKind.i64.wrap ((u / 10 : Nat) : Int) = ((u / 10 : Nat) : Int) := IntWalk.i64_in _ (by omega)
  have d4 : IntKind.i64.wrap ((u % 10 : Nat) : Int) = ((u % 10 : Nat) : Int) := IntWalk.i64_in _ (by omega)
  have kw : IntKind.u8.wrap (48 + ((u % 10 : Nat) : Int)) = 48 + ((u % 10 : Nat) : Int) := by rw [IntKind.wrap_u8]; omega
  have kw2 : IntKind.i64.wrap (48 + ((u % 10 : Nat) : Int)) = 48 + ((u % 10 : Nat) : Int) := IntWalk.i64_in _ (by omega)
  have hl := dec_len (u := u / 10) (by omega)
  rw [dec_more hu]
  obtain ⟨D, hD⟩ : ∃ D, D = Go.Lib.decDigits (u / 10) := ⟨_, rfl⟩
  rw [← hD] at hl hc ⊢
  clear hD
  obtain ⟨Q, hQ⟩ : ∃ q, q = u / 10 := ⟨_, rfl⟩
  obtain ⟨R, hR⟩ : ∃ q, q = u % 10 := ⟨_, rfl⟩
  have hR10 : R < 10 := by omega
  rw [← hQ] at hc d1 d3
  rw [← hR] at d2 d4 kw kw2 ⊢
  clear hQ hR
  obtain ⟨B, hB⟩ : ∃ B, B = UInt8.ofNat (48 + R) := ⟨_, rfl⟩
  rw [← hB]
  have kc := fun w g => conv_one w g R hR10 B hB
  clear hB
  obtain ⟨SD, hSD⟩ : ∃ s : ByteArray, s = ⟨D.toArray⟩ := ⟨_, rfl⟩
  obtain ⟨SE, hSE⟩ : ∃ s : ByteArray, s = ⟨(D ++ [B]).toArray⟩ := ⟨_, rfl⟩
  have ka : ∀ w : World, (Op.stringOp .add SD ⟨#[B]⟩).run Tryd.prog w = .ok (.string SE) w := fun w => by
    rw [run_string_add_sum w _ _ (by rw [hSD]; simp [ByteArray.size]; omega), hSD, hSE]
    simp [ByteArray.mk_append_mk]
  rw [← hSD] at hc
  rw [← hSE]
  clear hSD hSE hl
  go_enter Tryd.func47, Tryd.ntmps47
  go_wp2_with (fail)
  refine wp_region_noPanic ?_
  refine wp_region_held_drew (S := (fun _ => True)) (by kernel_rfl) trivial (fun hHeld => ?_)
  have E0 : Ext w w.drew := (Ext.refl w).drew
  generalize w.drew = wd at *
  refine wpAnyH_take (i := 0) (oi := { dst := some 10, op := _, type := _, pos := _, after := _, guard := _ }) (v := ?_) rfl (by kernel_rfl) (by kernel_rfl) (by kernel_rfl) (fun _ _ _ h => h) (Or.inl ⟨by rfl, ?_⟩) (by assumption) ?_
  rotate_left
  · (intro w hSw; (try dsimp only at hSw); go_simp) <;> (first | done | with_reducible rfl | rfl)
  try simp only [Act.put, List.setIfInBounds_toArray, List.set_cons_zero, List.set_cons_succ]
  refine wpAnyH_take (i := 1) (oi := { dst := some 11, op := _, type := _, pos := _, after := _, guard := _ }) (v := ?_) rfl (by kernel_rfl) (by kernel_rfl) (by kernel_rfl) (fun _ _ _ h => h) (Or.inl ⟨by rfl, ?_⟩) (by assumption) ?_
  rotate_left
  · (intro w hSw; (try dsimp only at hSw); go_simp) <;> (first | done | with_reducible rfl | rfl)
  try simp only [Act.put, List.setIfInBounds_toArray, List.set_cons_zero, List.set_cons_succ]
  refine wpAnyH_take (i := 3) (oi := { dst := some 13, op := _, type := _, pos := _, after := _, guard := _ }) (v := ?_) rfl (by kernel_rfl) (by kernel_rfl) (by kernel_rfl) (fun _ _ _ h => h) (Or.inl ⟨by rfl, ?_⟩) (by assumption) ?_
  rotate_left
  · (intro w hSw; (try dsimp only at hSw); go_simp) <;> (first | done | with_reducible rfl | rfl)
  try simp only [Act.put, List.setIfInBounds_toArray, List.set_cons_zero, List.set_cons_succ]
  refine wpAnyH_take (i := 4) (oi := { dst := some 14, op := _, type := _, pos := _, after := _, guard := _ }) (v := ?_) rfl (by kernel_rfl) (by kernel_rfl) (by kernel_rfl) (fun _ _ _ h => h) (Or.inl ⟨by rfl, ?_⟩) (by assumption) ?_
  rotate_left
  · (intro w hSw; (try dsimp only at hSw); go_simp) <;> (first | done | with_reducible rfl | rfl)
  try simp only [Act.put, List.setIfInBounds_toArray, List.set_cons_zero, List.set_cons_succ]
  refine wpAnyH_take (i := 5) (oi := { dst := some 15, op := _, type := _, pos := _, after := _, guard := _ }) (v := ?_) rfl (by kernel_rfl) (by kernel_rfl) (by kernel_rfl) (fun _ _ _ h => h) (Or.inl ⟨by rfl, ?_⟩) (by assumption) ?_
  rotate_left
  · (intro w hSw; (try dsimp only at hSw); go_simp) <;> (first | done | with_reducible rfl | rfl)
  try simp only [Act.put, List.setIfInBounds_toArray, List.set_cons_zero, List.set_cons_succ]
  refine wpAnyH_take (i := 6) (oi := { dst := some 16, op := _, type := _, pos := _, after := _, guard := _ }) (v := ?_) rfl (by kernel_rfl) (by kernel_rfl) (by kernel_rfl) (fun _ _ _ h => h) (Or.inl ⟨by rfl, ?_⟩) (by assumption) ?_
  rotate_left
  · (intro w hSw; (try dsimp only at hSw); go_simp) <;> (first | done | with_reducible rfl | rfl)
  try simp only [Act.put, List.setIfInBounds_toArray, List.set_cons_zero, List.set_cons_succ]
  refine wpAnyH_ready (rs := [2, 7]) (by kernel_rfl) (by simp) ?_
  refine AllReadyH.cons (o := { dst := some 12, op := _, type := _, pos := _, after := _, guard := _ }) rfl (fun K hK => ?_) (AllReadyH.cons (o := { dst := some 17, op := _, type := _, pos := _, after := _, guard := _ }) rfl (fun K hK => ?_) AllReadyH.nil)
  · go_simp
    refine (hc wd).mono ?_
    rintro e wk1 ⟨rfl, hb1⟩
    have E1 : Ext w wk1 := Ext.trans E0 hb1
    refine hK.out _ _ trivial (fun hHeld => ?_)
    clear hK K
    try simp only [Act.put, List.setIfInBounds_toArray, List.set_cons_zero, List.set_cons_succ]
    refine wpAnyH_ready (rs := [7]) (by kernel_rfl) (by simp) ?_
    refine AllReadyH.cons (o := { dst := some 17, op := _, type := _, pos := _, after := _, guard := _ }) rfl (fun K hK => ?_) AllReadyH.nil
    go_simp
    obtain ⟨wk2, gb, hb2, E2, C2⟩ := alloc_one wk1 (.int .u8 (48 + (R : Int))) 5 E1
    obtain ⟨hw2, hg2⟩ := hb2
    rw [← hw2, ← hg2]
    clear hw2 hg2
    refine hK.out _ _ trivial (fun hHeld => ?_)
    clear hK K
    try simp only [Act.put, List.setIfInBounds_toArray, List.set_cons_zero, List.set_cons_succ]
    refine wpAnyH_ready (rs := [8]) (by kernel_rfl) (by simp) ?_
    refine AllReadyH.cons (o := { dst := some 18, op := _, type := _, pos := _, after := _, guard := _ }) rfl (fun K hK => ?_) AllReadyH.nil
    have kx := kc wk2 gb C2.1
    go_simp
    refine hK.out _ _ trivial (fun hHeld => ?_)
    clear hK K
    try simp only [Act.put, List.setIfInBounds_toArray, List.set_cons_zero, List.set_cons_succ]
    refine wpAnyH_take (i := 9) (oi := { dst := some 19, op := _, type := _, pos := _, after := _, guard := _ }) (v := ?_) rfl (by kernel_rfl) (by kernel_rfl) (by kernel_rfl) (fun _ _ _ h => h) (Or.inl ⟨by rfl, ?_⟩) (by assumption) ?_
    rotate_left
    · (intro w hSw; (try dsimp only at hSw); go_simp) <;> (first | done | with_reducible rfl | rfl)
    try simp only [Act.put, List.setIfInBounds_toArray, List.set_cons_zero, List.set_cons_succ]
    refine wpAnyH_take (i := 10) (oi := { dst := some 2, op := _, type := _, pos := _, after := _, guard := _ }) (v := ?_) rfl (by kernel_rfl) (by kernel_rfl) (by kernel_rfl) (fun _ _ _ h => h) (Or.inl ⟨by rfl, ?_⟩) (by assumption) ?_
    rotate_left
    · (intro w hSw; (try dsimp only at hSw); go_simp) <;> (first | done | with_reducible rfl | rfl)
    try simp only [Act.put, List.setIfInBounds_toArray, List.set_cons_zero, List.set_cons_succ]
    refine wpAnyH_done (by kernel_rfl) ?_ _
    refine NoPanic.normal ?_
    go_wp2_with (fail)
    go_ret
    exact ⟨rfl, E2⟩
  · go_simp
    obtain ⟨wk4, gb, hb4, E4, C4⟩ := alloc_one wd (.int .u8 (48 + (R : Int))) 5 E0
    obtain ⟨hw4, hg4⟩ := hb4
    rw [← hw4, ← hg4]
    clear hw4 hg4
    refine hK.out _ _ trivial (fun hHeld => ?_)
    clear hK K
    try simp only [Act.put, List.setIfInBounds_toArray, List.set_cons_zero, List.set_cons_succ]
    refine wpAnyH_ready (rs := [2, 8]) (by kernel_rfl) (by simp) ?_
    refine AllReadyH.cons (o := { dst := some 12, op := _, type := _, pos := _, after := _, guard := _ }) rfl (fun K hK => ?_) (AllReadyH.cons (o := { dst := some 18, op := _, type := _, pos := _, after := _, guard := _ }) rfl (fun K hK => ?_) AllReadyH.nil)
    · go_simp
      refine (hc wk4).mono ?_
      rintro e wk5 ⟨rfl, hb5⟩
      have E5 : Ext w wk5 := Ext.trans E4 hb5
      have C5 := cell_ext C4 hb5
      refine hK.out _ _ trivial (fun hHeld => ?_)
      clear hK K
      try simp only [Act.put, List.setIfInBounds_toArray, List.set_cons_zero, List.set_cons_succ]
      refine wpAnyH_ready (rs := [8]) (by kernel_rfl) (by simp) ?_
      refine AllReadyH.cons (o := { dst := some 18, op := _, type := _, pos := _, after := _, guard := _ }) rfl (fun K hK => ?_) AllReadyH.nil
      have kx := kc wk5 gb C5.1
      go_simp
      refine hK.out _ _ trivial (fun hHeld => ?_)
      clear hK K
      try simp only [Act.put, List.setIfInBounds_toArray, List.set_cons_zero, List.set_cons_succ]
      refine wpAnyH_take (i := 9) (oi := { dst := some 19, op := _, type := _, pos := _, after := _, guard := _ }) (v := ?_) rfl (by kernel_rfl) (by kernel_rfl) (by kernel_rfl) (fun _ _ _ h => h) (Or.inl ⟨by rfl, ?_⟩) (by assumption) ?_
      rotate_left
      · (intro w hSw; (try dsimp only at hSw); go_simp) <;> (first | done | with_reducible rfl | rfl)
      try simp only [Act.put, List.setIfInBounds_toArray, List.set_cons_zero, List.set_cons_succ]
      refine wpAnyH_take (i := 10) (oi := { dst := some 2, op := _, type := _, pos := _, after := _, guard := _ }) (v := ?_) rfl (by kernel_rfl) (by kernel_rfl) (by kernel_rfl) (fun _ _ _ h => h) (Or.inl ⟨by rfl, ?_⟩) (by assumption) ?_
      rotate_left
      · (intro w hSw; (try dsimp only at hSw); go_simp) <;> (first | done | with_reducible rfl | rfl)
      try simp only [Act.put, List.setIfInBounds_toArray, List.set_cons_zero, List.set_cons_succ]
      refine wpAnyH_done (by kernel_rfl) ?_ _
      refine NoPanic.normal ?_
      go_wp2_with (fail)
      go_ret
      exact ⟨rfl, E5⟩
    · have kx := kc wk4 gb C4.1
      go_simp
      refine hK.out _ _ trivial (fun hHeld => ?_)
      clear hK K
      try simp only [Act.put, List.setIfInBounds_toArray, List.set_cons_zero, List.set_cons_succ]
      refine wpAnyH_ready (rs := [2]) (by kernel_rfl) (by simp) ?_
      refine AllReadyH.cons (o := { dst := some 12, op := _, type := _, pos := _, after := _, guard := _ }) rfl (fun K hK => ?_) AllReadyH.nil
      go_simp
      refine (hc wk4).mono ?_
      rintro e wk8 ⟨rfl, hb8⟩
      have E8 : Ext w wk8 := Ext.trans E4 hb8
      have C8 := cell_ext C4 hb8
      refine hK.out _ _ trivial (fun hHeld => ?_)
      clear hK K
      try simp only [Act.put, List.setIfInBounds_toArray, List.set_cons_zero, List.set_cons_succ]
      refine wpAnyH_take (i := 9) (oi := { dst := some 19, op := _, type := _, pos := _, after := _, guard := _ }) (v := ?_) rfl (by kernel_rfl) (by kernel_rfl) (by kernel_rfl) (fun _ _ _ h => h) (Or.inl ⟨by rfl, ?_⟩) (by assumption) ?_
      rotate_left
      · (intro w hSw; (try dsimp only at hSw); go_simp) <;> (first | done | with_reducible rfl | rfl)
      try simp only [Act.put, List.setIfInBounds_toArray, List.set_cons_zero, List.set_cons_succ]
      refine wpAnyH_take (i := 10) (oi := { dst := some 2, op := _, type := _, pos := _, after := _, guard := _ }) (v := ?_) rfl (by kernel_rfl) (by kernel_rfl) (by kernel_rfl) (fun _ _ _ h => h) (Or.inl ⟨by rfl, ?_⟩) (by assumption) ?_
      rotate_left
      · (intro w hSw; (try dsimp only at hSw); go_simp) <;> (first | done | with_reducible rfl | rfl)
      try simp only [Act.put, List.setIfInBounds_toArray, List.set_cons_zero, List.set_cons_succ]
      refine wpAnyH_done (by kernel_rfl) ?_ _
      refine NoPanic.normal ?_
      go_wp2_with (fail)
      go_ret
      exact ⟨rfl, E8⟩
theorem l1Num_any (u : Nat) (hu : u < 1000) (w : World) : Calls Tryd.prog 47 #[.int .i64 (u : Int)] w fun e w' => e = .returned (.string ⟨(Go.Lib.decDigits u).toArray⟩) ∧ Ext w w' := by
  by_cases h1 : u < 10
  · exact l1Num_one u h1 w
  · refine l1Num_step u h1 hu w fun w => ?_
    by_cases h2 : u / 10 < 10
    · exact l1Num_one _ h2 w
    · exact l1Num_step _ h2 (by omega) w fun w => l1Num_one _ (by omega) w
end Go.Proofs.YtedkffdkhnfoiaaDoor
