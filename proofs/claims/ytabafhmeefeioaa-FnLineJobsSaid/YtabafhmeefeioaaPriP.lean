/- The law of priority changes: a greater priority never finishes a job later, and the least priority just suffices. No condition. -/
import Derived.Test.YtabafhmeefeioaaPriO
import Derived.Test.YtabafhmeefeioaaQj
import Derived.Test.YtabafhmeefeioaaTypU
namespace Go.Proofs.Ytabafhmeefeioaa
open Go.RowKit
set_option linter.unusedSimpArgs false
set_option linter.unusedVariables false

theorem setP_two {z : List Int} {n i : Nat} {p q : Int} (hl : z.length = n * 3) (hi : i < n) (hp : p ≤ q) : Up (setP z i p) (setP z i q) n i where
  at_ j := by rw [(setP_at z i q j).1, (setP_at z i p j).1]
  len j := by rw [(setP_at z i q j).2, (setP_at z i p j).2]
  pr j hj := by rw [setP_pr z i q (by omega), setP_pr z i p (by omega), if_neg hj, if_neg hj]
  up := by rw [setP_pr z i q (by omega), setP_pr z i p (by omega), if_pos rfl, if_pos rfl]; exact hp
theorem idxOf_prop {P : Nat → Bool} {n : Nat} (h : 0 ≤ idxOf P n) : ∃ p : Nat, idxOf P n = (p : Int) ∧ p < n ∧ P p = true ∧ ∀ j, j < p → P j = false := by
  unfold idxOf at *
  cases e : (List.range n).find? P with
  | none => rw [e] at h; simp at h
  | some p =>
    rw [List.find?_range_eq_some] at e
    exact ⟨p, rfl, by simpa using e.2.1, e.1, fun j hj => by simpa using e.2.2 j hj⟩
theorem wpC_at {z : List Int} {n I : Nat} {q : Int} (hok : okJs z n = true) (hI : I < n) (h0 : 0 ≤ q) (h3 : q ≤ 3) : wpC z n (I : Int) q = true ∧ wpV z n (I : Int) q = setP z I q := by
  have h : wpC z n (I : Int) q = true := by
    unfold wpC
    rw [hok, inR_iff.2 ⟨by omega, by omega⟩, inR_iff.2 ⟨h0, h3⟩]
    rfl
  exact ⟨h, by unfold wpV; rw [if_pos h, Int.toNat_natCast]⟩
theorem leastAll (v : Value) (n : Nat) (z : List Int) (i t : Int) : ∃ (p : Int) (ok : Bool), (∀ w, IntRow .i64 3 w v n z → Calls Try.prog 29 #[v, .int .i64 i, .int .i64 t] w fun e w' => e = .returned (.tuple #[.int .i64 p, .bool ok]) ∧ Ext w w') ∧ (∀ w, IntRow .i64 3 w v n z → Calls Try.prog 28 #[v, .int .i64 i, .int .i64 t] w fun e w' => e = .returned (.tuple #[.int .i64 p, .bool ok]) ∧ Ext w w') ∧ (z.length = n * 3 → ok = true → okJs z n = true ∧ ∃ I : Nat, i = I ∧ I < n ∧ ∀ q : Nat, q ≤ 3 → okJs (setP z I q) n = true ∧ (wpC z n (I : Int) q = true ∧ wpV z n (I : Int) q = setP z I q) ∧ ((finJ (setP z I q) n).getD I 0 ≤ t ↔ p ≤ q)) := by
  refine ⟨_, _, fun w h => iLeastPriority_any v n z i t w h, fun w h => sLeastPriority_any v n z i t w h, fun hl h => ?_⟩
  unfold lpB at h
  rw [decide_eq_true_eq] at h
  have hc : lpC z n i t = true := by
    by_cases c : lpC z n i t = true
    · exact c
    · unfold lpI at h; rw [if_neg c] at h; omega
  have hv : lpV z n i t = lpI z n i t := by unfold lpV; rw [if_pos h]
  rw [hv]
  unfold lpI at h ⊢
  rw [if_pos hc] at h ⊢
  obtain ⟨p, hp, hp4, hp1, hp2⟩ := idxOf_prop h
  rw [hp]
  unfold lpC at hc
  rw [Bool.and_eq_true, Bool.and_eq_true, inR_iff, inR_iff] at hc
  obtain ⟨⟨hok, hi1, hi2⟩, _⟩ := hc
  obtain ⟨I, rfl⟩ := Int.eq_ofNat_of_zero_le hi1
  have hI : I < n := by omega
  refine ⟨hok, I, rfl, hI, fun q hq => ?_⟩
  have hokq : ∀ q : Nat, q ≤ 3 → okJs (setP z I (q : Int)) n = true := fun q hq => setP_ok hl hok hI (by omega) (by omega)
  refine ⟨hokq q hq, wpC_at hok hI (by omega) (by omega), ?_⟩
  unfold doneBy at hp1 hp2
  simp only [Int.toNat_natCast, decide_eq_true_eq, decide_eq_false_iff_not] at hp1 hp2
  constructor
  · intro hf
    rcases Nat.lt_or_ge q p with c | c
    · exact absurd hf (hp2 q c)
    · omega
  · intro hle
    have := fin_up (setP_two (p := (p : Int)) (q := (q : Int)) hl hI (by omega)) (hokq p (by omega)) (hokq q hq) hI
    omega
theorem finT {z : List Int} {n : Nat} (hok : okJs z n = true) (v : Value) : (∀ w, IntRow .i64 3 w v n z → Calls Try.prog 36 #[v] w fun e w' => ∃ v', e = .returned (.tuple #[v', .bool true]) ∧ IntRow .i64 1 w' v' n (finJ z n) ∧ Ext w w') ∧ (∀ w, IntRow .i64 3 w v n z → Calls Try.prog 35 #[v] w fun e w' => ∃ v', e = .returned (.tuple #[v', .bool true]) ∧ IntRow .i64 1 w' v' n (finJ z n) ∧ Ext w w') := by
  have e1 : finV z n = finJ z n := by unfold finV; rw [if_pos hok]
  have hw : ∀ x ∈ finJ z n, (Lit.int .i64 x).wf = true := by rw [← e1]; exact finV_wf z n
  have hn := okJs_n hok
  refine ⟨fun w h => ?_, fun w h => ?_⟩
  · refine (iFinishTimes_any v n z w h).mono ?_
    rintro e w' ⟨v', rfl, hr, hx⟩
    rw [hok]
    rw [e1, finJ_len, Nat.div_one] at hr
    exact ⟨v', rfl, row_ints hr (by unfold maxLen; omega) hw, hx⟩
  · refine (sFinishTimes_any v n z w h).mono ?_
    rintro e w' ⟨v', rfl, hr, hx⟩
    rw [hok]
    rw [e1, finJ_len, Nat.div_one] at hr
    exact ⟨v', rfl, row_ints hr (by unfold maxLen; omega) hw, hx⟩
theorem withT {z : List Int} {n I : Nat} {q : Int} (hl : z.length = n * 3) (hw : ∀ x ∈ z, (Lit.int .i64 x).wf = true) (hok : okJs z n = true) (hI : I < n) (h0 : 0 ≤ q) (h3 : q ≤ 3) (v : Value) : (∀ w, IntRow .i64 3 w v n z → Calls Try.prog 21 #[v, .int .i64 (I : Int), .int .i64 q] w fun e w' => ∃ v', e = .returned (.tuple #[v', .bool true]) ∧ IntRow .i64 3 w' v' n (setP z I q) ∧ Ext w w') ∧ (∀ w, IntRow .i64 3 w v n z → Calls Try.prog 20 #[v, .int .i64 (I : Int), .int .i64 q] w fun e w' => ∃ v', e = .returned (.tuple #[v', .bool true]) ∧ IntRow .i64 3 w' v' n (setP z I q) ∧ Ext w w') := by
  obtain ⟨e1, e2⟩ := wpC_at hok hI h0 h3
  have hn := okJs_n hok
  have hlen : (setP z I q).length / 3 = n := by rw [setP_len]; omega
  refine ⟨fun w h => ?_, fun w h => ?_⟩
  · refine (iWithPriority_any v n z (I : Int) q w h).mono ?_
    rintro e w' ⟨v', rfl, hr, hx⟩
    rw [e1]
    rw [e2, hlen] at hr
    exact ⟨v', rfl, row_ints hr (by unfold maxLen; omega) (setP_wf hw h0 h3), hx⟩
  · refine (sWithPriority_any v n z (I : Int) q w h).mono ?_
    rintro e w' ⟨v', rfl, hr, hx⟩
    rw [e1]
    rw [e2, hlen] at hr
    exact ⟨v', rfl, row_ints hr (by unfold maxLen; omega) (setP_wf hw h0 h3), hx⟩
theorem withAll (v : Value) (n : Nat) (z : List Int) (i p : Int) : ∃ (L : List Int) (m : Nat) (ok : Bool), (∀ w, IntRow .i64 3 w v n z → Calls Try.prog 21 #[v, .int .i64 i, .int .i64 p] w fun e w' => ∃ v', e = .returned (.tuple #[v', .bool ok]) ∧ IntRow .i64 3 w' v' m L ∧ Ext w w') ∧ (∀ w, IntRow .i64 3 w v n z → Calls Try.prog 20 #[v, .int .i64 i, .int .i64 p] w fun e w' => ∃ v', e = .returned (.tuple #[v', .bool ok]) ∧ IntRow .i64 3 w' v' m L ∧ Ext w w') ∧ (z.length = n * 3 → ok = true → okJs z n = true ∧ m = n ∧ (0 ≤ p ∧ p ≤ 3) ∧ ∃ I : Nat, i = I ∧ I < n ∧ L = setP z I p ∧ okJs L n = true ∧ (jPr z I ≤ p → (finJ L n).getD I 0 ≤ (finJ z n).getD I 0) ∧ (p ≤ jPr z I → (finJ z n).getD I 0 ≤ (finJ L n).getD I 0)) := by
  refine ⟨wpV z n i p, (wpV z n i p).length / 3, wpC z n i p, fun w h => ?_, fun w h => ?_, fun hl h => ?_⟩
  · refine (iWithPriority_any v n z i p w h).mono ?_
    rintro e w' ⟨v', rfl, hr, hx⟩
    have := wpV_len (i := i) (p := p) h.1
    have := h.2.1
    exact ⟨v', rfl, row_ints hr (by omega) (wpV_wf h.2.2.1), hx⟩
  · refine (sWithPriority_any v n z i p w h).mono ?_
    rintro e w' ⟨v', rfl, hr, hx⟩
    have := wpV_len (i := i) (p := p) h.1
    have := h.2.1
    exact ⟨v', rfl, row_ints hr (by omega) (wpV_wf h.2.2.1), hx⟩
  · have hc := h
    unfold wpC at hc
    rw [Bool.and_eq_true, Bool.and_eq_true, inR_iff, inR_iff] at hc
    obtain ⟨⟨hok, hi1, hi2⟩, hp1, hp2⟩ := hc
    obtain ⟨I, rfl⟩ := Int.eq_ofNat_of_zero_le hi1
    have hI : I < n := by omega
    have hokq := setP_ok hl hok hI hp1 hp2
    have e2 := (wpC_at hok hI hp1 hp2).2
    rw [e2]
    refine ⟨hok, by rw [setP_len]; omega, ⟨hp1, hp2⟩, I, rfl, hI, rfl, hokq, fun hle => fin_up (setP_up hl hI hle) hok hokq hI, fun hle => fin_up (setP_dn hl hI hle) hokq hok hI⟩


set_option maxRecDepth 100000 in
set_option maxHeartbeats 1000000 in
theorem drawWith (vc : Value) (n : Nat) (zc : List Int) (w : World) (h : IntRow .u8 1 w vc n zc) (hn : n ≤ 9223372036854775807) :
    Calls Try.prog 47 #[vc] w fun e w' => ∃ (x y : Int) (v : Value) (m : Nat) (zs : List Int), e = .returned (.tuple #[v, .int .i64 x, .int .i64 y]) ∧ IntRow .i64 3 w' v m zs ∧ m ≤ 13 ∧ Ext w w' := by
  have hc := cur_new h (by omega)
  obtain ⟨a, c, rfl⟩ := introw_slice h
  go_enter Try.func47, Try.ntmps47
  go_wp2_with (fail)
  refine (jobsS hc (by omega)).mono ?_
  rintro e w1 ⟨v, m, zs, q1, rfl, hr, hm, hw, hq1, hc1, hg1⟩
  have hsz := hg1.size
  rw [World.size_alloc] at hr hsz
  have HFAR : Hid (∀ k, v.ownBlock = some k → w.heap.size ≠ k) := hid (fun k hk => by have := (hr.lt k hk).1; omega)
  have HR := hid hr
  clear hr
  obtain ⟨av, cv, rfl, _, _, _⟩ := row_shape HR.out
  go_wp2_with (fail)
  refine (indexS av m cv hc1 (by omega) hm).mono ?_
  rintro e w2 ⟨x, q2, rfl, b1, b2, hq2, hc2, hg2⟩
  go_wp2_with (fail)
  refine (pickS 5 hc2 (by omega)).mono ?_
  rintro e w3 ⟨x3, q3, rfl, b3, _, b4, hq3, hq3', hc3, hg3⟩
  have b4' := b4 (by omega)
  go_wp2_with (fail)
  refine (pickS 20 hc3 (by omega)).mono ?_
  rintro e w4 ⟨x4, q4, rfl, b5, _, b6, hq4, hq4', hc4, hg4⟩
  have b6' := b6 (by omega)
  have d4 : x4.tdiv 19 = x4 / 19 := Int.tdiv_eq_ediv_of_nonneg b5
  have d5 : IntKind.i64.wrap (x4 / 19) = x4 / 19 := IntWalk.i64_in _ (by omega)
  have d6 : IntKind.i64.wrap (x3 - x4 / 19) = x3 - x4 / 19 := IntWalk.i64_in _ (by omega)
  go_wp2_with (fail)
  go_returns
  refine ⟨x, _, _, m, zs, rfl, row_ints (((HR.out.kept hg2 (.inr (fun e => HFAR.out _ e rfl))).kept hg3 (.inr (fun e => HFAR.out _ e rfl))).kept hg4 (.inr (fun e => HFAR.out _ e rfl))) (by unfold maxLen; omega) hw, by omega, ?_⟩
  exact fresh (World.grownBy.trans hg1 (World.grownBy.trans hg2 (World.grownBy.trans hg3 hg4)))

/-- the types of the region that draws its order -/
def dlU (B I m : Nat) (zs : List Int) : Nat → World → Value → Prop
  | 0, w, v => IntRow .i64 3 w v m zs ∧ farV B [] v
  | 1, _, v => v = .int .i64 (I : Int)
  | 2, w, v => IntRow .i64 1 w v m (finJ zs m) ∧ farV B [] v
  | 3, w, v => ptrU B [] ((finJ zs m).getD I 0) w v
  | _, _, _ => False
theorem dlU_ok (B I m : Nat) (zs : List Int) : UOk B [] (dlU B I m zs) := by
  intro k w w' v g h
  match k, h with
  | 0, h => exact ⟨introw_gr h.1 h.2 g, h.2⟩
  | 1, h => exact h
  | 2, h => exact ⟨introw_gr h.1 h.2 g, h.2⟩
  | 3, h => exact ptrU_gr h g

set_option maxRecDepth 100000 in
set_option maxHeartbeats 1000000 in
theorem drawLeast (vc : Value) (n : Nat) (zc : List Int) (w : World) (h : IntRow .u8 1 w vc n zc) (hn : n ≤ 9223372036854775807) :
    Calls Try.prog 46 #[vc] w fun e w' => ∃ (x y : Int) (v : Value) (m : Nat) (zs : List Int), e = .returned (.tuple #[v, .int .i64 x, .int .i64 y]) ∧ IntRow .i64 3 w' v m zs ∧ m ≤ 13 ∧ Ext w w' := by
  have hc := cur_new h (by omega)
  obtain ⟨a, c, rfl⟩ := introw_slice h
  go_enter Try.func46, Try.ntmps46
  go_wp2_with (fail)
  refine (jobsS hc (by omega)).mono ?_
  rintro e w1 ⟨v, m, zs, q1, rfl, hr, hm, hw, hq1, hc1, hg1⟩
  have hsz := hg1.size
  rw [World.size_alloc] at hr hsz
  have HFAR : Hid (∀ k, v.ownBlock = some k → w.heap.size ≠ k) := hid (fun k hk => by have := (hr.lt k hk).1; omega)
  have HR := hid hr
  clear hr
  obtain ⟨av, cv, rfl, _, _, _⟩ := row_shape HR.out
  go_wp2_with (fail)
  refine (indexS av m cv hc1 (by omega) hm).mono ?_
  rintro e w2 ⟨x, q2, rfl, b1, b2, hq2, hc2, hg2⟩
  go_wp2_with (fail)
  refine (tickS hc2 (by omega)).mono ?_
  rintro e w3 ⟨y, q3, rfl, b3, b4, hq3, hc3, hg3⟩
  have HR3 := hid (row_ints ((HR.out.kept hg2 (.inr (fun e => HFAR.out _ e rfl))).kept hg3 (.inr (fun e => HFAR.out _ e rfl))) (by unfold maxLen; omega) hw)
  have HRO := hid ((HR.out.kept hg2 (.inr (fun e => HFAR.out _ e rfl))).kept hg3 (.inr (fun e => HFAR.out _ e rfl)))
  have E3 : Ext w w3 := fresh (World.grownBy.trans hg1 (World.grownBy.trans hg2 hg3))
  clear hc1 hc2 hg1 hg2 hg3 HR
  go_wp2_with (fail)
  refine (prHas_any _ m zs x _ HR3.out).mono ?_
  rintro e w4 ⟨rfl, k4⟩
  have HR4 := hid (HR3.out.ext k4)
  have HRO4 := hid (row_ext HRO.out k4)
  have hc4 := hc3.ext k4
  have E4 := E3.trans k4
  clear HR3 HRO hc3 E3 k4
  obtain ⟨OB, hOB⟩ : ∃ b, b = (okJs zs m && inR x 0 ((m : Int) - 1)) := ⟨_, rfl⟩
  rw [← hOB]
  have HOB := hid hOB
  clear hOB
  cases OB with
  | false =>
    go_wp2_with (fail)
    go_returns
    exact ⟨x, y, _, m, zs, rfl, HR4.out, hm, E4⟩
  | true =>
    have hob := HOB.out
    symm at hob
    rw [Bool.and_eq_true, inR_iff] at hob
    obtain ⟨hok, hx0, hx1⟩ := hob
    have HOK := hid hok
    clear hok HOB
    go_wp2_with (fail)
    refine (oneS 2 hc4 (by omega)).mono ?_
    rintro e w5 ⟨o5, q5, rfl, _, hq5, hc5, hg5⟩
    have HRO5 := hid (HRO4.out.kept hg5 (.inr (fun e => HFAR.out _ e rfl)))
    have E5 : Ext w w5 := E4.of_grownAt hg5 (by intro k hk; simp at hk; omega)
    clear HR4 HRO4 hc4 E4 hg5
    cases o5 with
    | false =>
      go_wp2_with (fail)
      go_returns
      exact ⟨x, y, _, m, zs, rfl, row_ints HRO5.out (by unfold maxLen; omega) hw, hm, E5⟩
    | true =>
      obtain ⟨I, rfl⟩ := Int.eq_ofNat_of_zero_le hx0
      have hI : I < m := by omega
      have hI2 : (I : Int) < m := by omega
      have HFB := hid (fin_bd HOK.out I hI)
      have hc5b := hc5.size
      have hfarv : farV w.heap.size [] (.slice av m cv) := fun a' l' c' e => ⟨fun e2 => HFAR.out a'.block (by rw [e]; rfl) e2.symm, by simp⟩
      have hrow5 := row_ints HRO5.out (by unfold maxLen; omega) hw
      have hu0 : dlU w.heap.size I m zs 0 w5 (.slice av m cv) := ⟨hrow5, hfarv⟩
      have hU := dlU_ok w.heap.size I m zs
      have hCI : CI w.heap.size [] (dlU w.heap.size I m zs) (.slice a n c) n zc q5 w5 := ⟨hc5, Bx.nil _⟩
      have hIm := hI
      have hfw : ∀ x ∈ finJ zs m, (Lit.int .i64 x).wf = true := by have := finV_wf zs m; unfold finV at this; rwa [if_pos HOK.out] at this
      have hLz : (Lit.int .i64 ((finJ zs m).getD I 0)).wf = true := getD_wf hfw (by rw [finJ_len]; exact hI)
      have hI2 : ∀ w' v', dlU w.heap.size I m zs 2 w' v' → IntRow .i64 1 w' v' m (finJ zs m) ∧ farV w.heap.size [] v' := fun _ _ h => h
      have hI1 : ∀ w' v', dlU w.heap.size I m zs 1 w' v' → v' = .int .i64 (I : Int) := fun _ _ h => h
      have hI3 : ∀ w' v', ptrU w.heap.size [] ((finJ zs m).getD I 0) w' v' → dlU w.heap.size I m zs 3 w' v' := fun _ _ h => h
      have hLd : ∀ w' v', dlU w.heap.size I m zs 3 w' v' → ptrU w.heap.size [] ((finJ zs m).getD I 0) w' v' := fun _ _ h => h
      have hFin : ∀ (w' : World) (q' : Nat) (args : List Value), CI w.heap.size [] (dlU w.heap.size I m zs) (.slice a n c) n zc q' w' → q' ≤ 800000000 → argsT w.heap.size [] (dlU w.heap.size I m zs) w' [.usr 0] args →
          Calls Try.prog 66 args.toArray w' fun e w'' => ∃ (v : Value) (q'' : Nat), e = .returned v ∧ q'' ≤ q' + 100000 ∧ CS w'' w.heap.size (.slice a n c) n zc q'' ∧ vT w.heap.size [] (dlU w.heap.size I m zs) w'' (.usr 2) v ∧ w'.grownBy w'' (some w.heap.size) := by
        intro w' q' args hci hq' ha
        obtain ⟨a0, rfl, hr0, _⟩ := args1 ha
        refine (sFin_any a0 m zs w' hr0 HOK.out).mono ?_
        rintro e w'' ⟨g, rfl, hr, hx⟩
        have hg := (hr.lt g rfl).1
        have hsz := hci.1.size
        refine ⟨_, q', rfl, by omega, hci.1.ext hx, ⟨row_ints hr (by unfold maxLen; omega) hfw, ?_⟩, hx.grown.but _⟩
        rintro a' l' c' ⟨rfl⟩
        exact ⟨by simp only []; omega, by simp⟩
      go_wp2_with (fail)
      refine wp_region_typed' (by kernel_rfl) (CI w.heap.size [] (dlU w.heap.size I m zs) (.slice a n c) n zc) (vT w.heap.size [] (dlU w.heap.size I m zs)) (Gr w.heap.size []) 100000 (Gr.refl _ _) (fun _ _ _ h k => Gr.trans h k) (fun _ _ _ _ g h => vT_mono hU g h) (fun _ _ h => CI.ext hU h ((Ext.refl _).drew)) (fun _ => Gr.of_ext ((Ext.refl _).drew)) [([(6, (.usr 0))], (.usr 0)), ([(26, (.usr 0))], (.usr 2)), ([(7, (.usr 1))], (.usr 1)), ([(27, (.usr 2)), (28, (.usr 1))], (.usr 3)), ([(29, (.usr 3))], .int), ([(5, .cur)], .cur), ([(31, .cur)], .int), ([(30, .int), (32, .int)], .int), ([(33, .int)], .int)] [(5, .cur), (6, (.usr 0)), (7, (.usr 1))] (by kernel_rfl) (AllOk.cons (ok_move rfl) (AllOk.cons (ok_callU (enters Try.func66 (by kernel_rfl) (by kernel_rfl)) (hFin) rfl rfl hU) (AllOk.cons (ok_move rfl) (AllOk.cons (ok_idxU (i2 := 2) (i1 := 1) (i3 := 3) hIm hI2 hI1 hI3 rfl rfl) (AllOk.cons (ok_loadU hLd hLz (by kernel_rfl) rfl) (AllOk.cons (ok_move rfl) (AllOk.cons (ok_call (enters Try.func75 (by kernel_rfl) (by kernel_rfl)) (pickT (.slice a n c) n zc) rfl rfl hU) (AllOk.cons (ok_arith (.inr (.inl rfl)) rfl rfl) (AllOk.cons (ok_assign rfl) (trivial)))))))))) (q5) (by first | decide | (simp only [List.size_toArray, List.length_cons, List.length_nil]; omega)) hCI (GCons (rfl) (GCons (hu0) (GCons (rfl) GNil))) [26, 27, 28, 29, 30, 31, 32, 33, 8] (by kernel_rfl) ?_
      intro u w' q' hq' hI' hG hu
      obtain ⟨z, e3, hz⟩ : intV (u 8) := hu 8 .int (by kernel_rfl)
      clear hu hq' hFin hLd hI3 hI1 hI2
      have hE := hG.ext E5 (Nat.le_refl _) (by simp)
      have hrow6 := introw_gr hrow5 hfarv hG
      clear hG hI' hCI hU hu0 hrow5 hfarv hc5 E5 HRO5 hLz hfw HFB HOK HFAR
      simp only [putsAt, List.foldl_cons, List.foldl_nil, List.setIfInBounds_toArray, List.set_cons_zero, List.set_cons_succ]
      rw [e3]
      go_wp2_with (fail)
      go_returns
      exact ⟨(I : Int), z, _, m, zs, rfl, hrow6, hm, hE⟩
end Go.Proofs.Ytabafhmeefeioaa