/- The chapter of shifts: who is on duty in an hour; the longest duty. No condition. -/
import Derived.Test.YtedkffdkhnfoiaaDoorShfD
import Derived.Test.YtedkffdkhnfoiaaDoorPut
namespace Go.Proofs.YtedkffdkhnfoiaaDoor
open Go.RowKit
set_option linter.unusedSimpArgs false
set_option linter.unusedVariables false

/-- shifts of one operator follow each other -/
theorem okSs_con {z : List Int} {n : Nat} (h : okSs z n = true) {i j : Nat} (hj : j < i) (hi : i < n) (ho : shOp z j = shOp z i) : shTo z j ≤ shFr z i := by
  unfold okSs at h
  rw [Bool.and_eq_true] at h
  have h1 := allB_get h.2 i hi
  unfold shAt at h1
  rw [Bool.and_eq_true, Bool.and_eq_true] at h1
  have h2 := allB_get h1.2.2 j hj
  simp only [conAt, conB, ho, beq_self_eq_true, Bool.true_and, Bool.not_eq_true', decide_eq_false_iff_not] at h2
  omega
theorem okSs_step {z : List Int} {n : Nat} (h : okSs z n = true) {i : Nat} (hi : i + 1 < n) : shFr z i ≤ shFr z (i + 1) := by
  unfold okSs at h
  rw [Bool.and_eq_true] at h
  have h1 := allB_get h.2 (i + 1) hi
  unfold shAt at h1
  rw [Bool.and_eq_true, Bool.and_eq_true] at h1
  have h2 := h1.2.1
  simp only [befB, Nat.add_sub_cancel, Bool.or_eq_true, decide_eq_true_eq, Bool.and_eq_true, beq_iff_eq] at h2
  omega
theorem okSs_mono {z : List Int} {n : Nat} (h : okSs z n = true) {j : Nat} : ∀ i, j ≤ i → i < n → shFr z j ≤ shFr z i
  | 0, hj, _ => by obtain rfl : j = 0 := by omega
                   exact Int.le_refl _
  | i + 1, hj, hi => by
    by_cases e : j = i + 1
    · subst e; exact Int.le_refl _
    · exact Int.le_trans (okSs_mono h i (by omega) (by omega)) (okSs_step h hi)

/-- shift i has hour h -/
def hasH (z : List Int) (h : Int) (i : Nat) : Bool := inR h (shFr z i) (shTo z i - 1)
/-- the operators on duty in hour h, of the first k shifts -/
def onL (z : List Int) (h : Int) : Nat → List Int
  | 0 => []
  | k + 1 => if hasH z h k = true then putL (onL z h k) (shOp z k) else onL z h k
theorem onL_sorted (z : List Int) (h : Int) : ∀ k, (onL z h k).Pairwise (· < ·)
  | 0 => by simp [onL]
  | k + 1 => by
    rw [onL]; split
    · exact putL_sorted (onL_sorted z h k)
    · exact onL_sorted z h k
theorem mem_onL {z : List Int} {h x : Int} : ∀ {k}, x ∈ onL z h k ↔ ∃ i, i < k ∧ shOp z i = x ∧ hasH z h i = true
  | 0 => by simp [onL]
  | k + 1 => by
    rw [onL]
    by_cases c : hasH z h k = true
    · rw [if_pos c, mem_putL, mem_onL]
      constructor
      · rintro (rfl | ⟨i, h1, h2⟩)
        · exact ⟨k, by omega, rfl, c⟩
        · exact ⟨i, by omega, h2⟩
      · rintro ⟨i, h1, h2, h3⟩
        by_cases e : i = k
        · subst e; exact .inl h2.symm
        · exact .inr ⟨i, by omega, h2, h3⟩
    · rw [if_neg c, mem_onL]
      constructor
      · rintro ⟨i, h1, h2⟩; exact ⟨i, by omega, h2⟩
      · rintro ⟨i, h1, h2, h3⟩
        by_cases e : i = k
        · subst e; exact absurd h3 c
        · exact ⟨i, by omega, h2, h3⟩
/-- how many of the first k shifts have hour h -/
def cntH (z : List Int) (h : Int) : Nat → Nat
  | 0 => 0
  | k + 1 => if hasH z h k = true then cntH z h k + 1 else cntH z h k
theorem onL_length {z : List Int} {n : Nat} (ok : okSs z n = true) (h : Int) : ∀ k, k ≤ n → (onL z h k).length = cntH z h k
  | 0, _ => by simp [onL, cntH]
  | k + 1, hk => by
    rw [onL, cntH]
    by_cases c : hasH z h k = true
    · rw [if_pos c, if_pos c, putL_length (onL_sorted z h k), if_neg, onL_length ok h k (by omega)]
      intro hm
      obtain ⟨i, h1, h2, h3⟩ := mem_onL.1 hm
      have := okSs_con ok h1 (by omega) h2
      unfold hasH at c h3
      rw [inR_iff] at c h3
      omega
    · rw [if_neg c, if_neg c, onL_length ok h k (by omega)]
theorem cntH_le (z : List Int) (h : Int) : ∀ k, cntH z h k ≤ k
  | 0 => by simp [cntH]
  | k + 1 => by have := cntH_le z h k; rw [cntH]; split <;> omega
theorem onL_len_le (z : List Int) (h : Int) : ∀ k, (onL z h k).length ≤ k
  | 0 => by simp [onL]
  | k + 1 => by
    have := onL_len_le z h k
    have := (putL_len_le (n := shOp z k) (onL z h k)).2
    rw [onL]; split <;> omega

/-! the longest duty, hour by hour: from, most, run -/
def onB (z : List Int) (n : Nat) (p : Int) (h : Int) : Bool := decide (p ∈ onL z h n)
def ldS (B : Int → Bool) : Nat → Int × Int × Int
  | 0 => (0, 0, 0)
  | h + 1 =>
    let r := if B (h : Int) = true then (ldS B h).2.2 + 1 else 0
    if (ldS B h).2.1 < r then ((h : Int) - r + 1, r, r) else ((ldS B h).1, (ldS B h).2.1, r)
theorem ldS_off {B : Int → Bool} (h : Nat) (hm : 0 ≤ (ldS B h).2.1) : ∀ d : Nat, 0 < d → (∀ j : Nat, j < d → B ((h + j : Nat) : Int) = false) → ldS B (h + d) = ((ldS B h).1, (ldS B h).2.1, 0)
  | 0, hd, _ => by omega
  | d + 1, _, hb => by
    have hb1 := hb d (by omega)
    rw [show h + (d + 1) = (h + d) + 1 by omega, ldS]
    rw [hb1]
    simp only [Bool.false_eq_true, ↓reduceIte]
    by_cases e : d = 0
    · subst e; simp only [Nat.add_zero]; rw [if_neg (by omega)]
    · rw [ldS_off h hm d (by omega) (fun j hj => hb j (by omega))]
      rw [if_neg (by simpa using hm)]
theorem ldS_on {B : Int → Bool} (h : Nat) : ∀ d : Nat, (∀ j : Nat, j < d → B ((h + j : Nat) : Int) = true) → (ldS B h).2.2 ≤ (ldS B h).2.1 →
    ldS B (h + d) = if (ldS B h).2.1 < (ldS B h).2.2 + d then ((h : Int) - (ldS B h).2.2, (ldS B h).2.2 + d, (ldS B h).2.2 + d) else ((ldS B h).1, (ldS B h).2.1, (ldS B h).2.2 + d)
  | 0, _, hr => by
    rw [if_neg (by omega)]
    simp
  | d + 1, hb, hr => by
    have hb1 := hb d (by omega)
    have ih := ldS_on h d (fun j hj => hb j (by omega)) hr
    rw [show h + (d + 1) = (h + d) + 1 by omega, ldS, hb1, ih]
    simp only [↓reduceIte]
    generalize (ldS B h).2.2 = r at *
    generalize (ldS B h).2.1 = m at *
    by_cases c : m < r + d
    · simp only [if_pos c]
      rw [if_pos (by omega), if_pos (by omega)]
      simp only [Prod.mk.injEq]
      refine ⟨?_, ?_, ?_⟩ <;> omega
    · simp only [if_neg c]
      by_cases c2 : m < r + (d + 1 : Nat)
      · rw [if_pos (by omega), if_pos (by omega)]
        simp only [Prod.mk.injEq]
        refine ⟨?_, ?_, ?_⟩ <;> omega
      · rw [if_neg (by omega), if_neg (by omega)]
        simp only [Prod.mk.injEq, true_and]
        omega
/-- the longest duty, shift by shift: from, to, begin, end -/
def ldI (z : List Int) (p : Int) : Nat → Int × Int × Int × Int
  | 0 => (0, 0, 0, -1)
  | k + 1 =>
    if shOp z k = p then
      let b := if shFr z k = (ldI z p k).2.2.2 then (ldI z p k).2.2.1 else shFr z k
      if (ldI z p k).2.1 - (ldI z p k).1 < shTo z k - b then (b, shTo z k, b, shTo z k) else ((ldI z p k).1, (ldI z p k).2.1, b, shTo z k)
    else ldI z p k
/-- the end of the operator's last shift among the first k; 0 if there is none -/
def endP (z : List Int) (p : Int) : Nat → Int
  | 0 => 0
  | k + 1 => if shOp z k = p then shTo z k else endP z p k
theorem endP_bd {z : List Int} {n : Nat} (ok : okSs z n = true) (p : Int) : ∀ k, k ≤ n → 0 ≤ endP z p k ∧ endP z p k ≤ 168 ∧ ∀ i, i < k → shOp z i = p → shTo z i ≤ endP z p k
  | 0, _ => by simp [endP]
  | k + 1, hk => by
    have ih := endP_bd ok p k (by omega)
    have hb := okSs_bd ok k (by omega)
    rw [endP]
    by_cases c : shOp z k = p
    · rw [if_pos c]
      refine ⟨by omega, by omega, fun i hi hp => ?_⟩
      by_cases e : i = k
      · subst e; exact Int.le_refl _
      · have := okSs_con ok (show i < k by omega) (by omega) (by rw [hp, c])
        omega
    · rw [if_neg c]
      refine ⟨ih.1, ih.2.1, fun i hi hp => ?_⟩
      by_cases e : i = k
      · subst e; exact absurd hp c
      · exact ih.2.2 i (by omega) hp
theorem endP_mem {z : List Int} (p : Int) : ∀ k, endP z p k = 0 ∨ ∃ i, i < k ∧ shOp z i = p ∧ shTo z i = endP z p k
  | 0 => .inl rfl
  | k + 1 => by
    rw [endP]
    by_cases c : shOp z k = p
    · rw [if_pos c]; exact .inr ⟨k, by omega, c, rfl⟩
    · rw [if_neg c]
      rcases endP_mem p k with h | ⟨i, h1, h2⟩
      · exact .inl h
      · exact .inr ⟨i, by omega, h2⟩
theorem onB_iff {z : List Int} {n : Nat} {p h : Int} : onB z n p h = true ↔ ∃ i, i < n ∧ shOp z i = p ∧ shFr z i ≤ h ∧ h < shTo z i := by
  unfold onB
  rw [decide_eq_true_eq, mem_onL]
  constructor
  · rintro ⟨i, h1, h2, h3⟩
    unfold hasH at h3; rw [inR_iff] at h3
    exact ⟨i, h1, h2, by omega, by omega⟩
  · rintro ⟨i, h1, h2, h3, h4⟩
    exact ⟨i, h1, h2, by unfold hasH; rw [inR_iff]; omega⟩
theorem onB_false {z : List Int} {n : Nat} {p h : Int} (hh : ∀ i, i < n → shOp z i = p → h < shFr z i ∨ shTo z i ≤ h) : onB z n p h = false := by
  rw [← Bool.not_eq_true, onB_iff]
  rintro ⟨i, h1, h2, h3, h4⟩
  have := hh i h1 h2
  omega
/-- the two ways of reckoning meet at the end of each of the operator's shifts -/
theorem ld_meet {z : List Int} {n : Nat} (ok : okSs z n = true) (p : Int) : ∀ k, k ≤ n →
    let S := ldS (onB z n p) (endP z p k).toNat
    let I := ldI z p k
    S.1 = I.1 ∧ S.2.1 = I.2.1 - I.1 ∧ 0 ≤ S.2.1 ∧ S.2.2 ≤ S.2.1 ∧ 0 ≤ I.1 ∧ I.1 ≤ 168 ∧ 0 ≤ I.2.1 ∧ I.2.1 ≤ 168 ∧ 0 ≤ I.2.2.1 ∧ I.2.2.1 ≤ 168 ∧
      ((I.2.2.2 = -1 ∧ endP z p k = 0 ∧ S.2.2 = 0) ∨ (I.2.2.2 = endP z p k ∧ S.2.2 = I.2.2.2 - I.2.2.1))
  | 0, _ => by simp [ldI, endP, ldS]
  | k + 1, hk => by
    have ih := ld_meet ok p k (by omega)
    have he := endP_bd ok p k (by omega)
    have hm := endP_mem (z := z) p k
    have hb := okSs_bd ok k (by omega)
    simp only at ih ⊢
    rw [ldI, endP]
    by_cases c : shOp z k = p
    · rw [if_pos c, if_pos c]
      have hge : endP z p k ≤ shFr z k := by
        rcases hm with hm | ⟨i, h1, h2, h3⟩
        · omega
        · have := okSs_con ok h1 (by omega) (by rw [h2, c]); omega
      obtain ⟨E, hE⟩ := Int.eq_ofNat_of_zero_le he.1
      obtain ⟨F, hF⟩ := Int.eq_ofNat_of_zero_le hb.2.2.1
      obtain ⟨T, hT⟩ := Int.eq_ofNat_of_zero_le (show 0 ≤ shTo z k by omega)
      have on : ∀ j : Nat, j < T - F → onB z n p ((F + j : Nat) : Int) = true := fun j hj => onB_iff.2 ⟨k, by omega, c, by omega, by omega⟩
      have off : ∀ j : Nat, j < F - E → onB z n p ((E + j : Nat) : Int) = false := fun j hj => onB_false fun i hi hp => by
        by_cases hik : i < k
        · have := he.2.2 i hik hp; omega
        · have := okSs_mono ok i (show k ≤ i by omega) hi; omega
      rw [hE] at ih hge
      rw [hF] at hge
      rw [hF, hT]
      simp only [Int.toNat_natCast, Int.ofNat_eq_natCast] at ih ⊢
      generalize ldI z p k = I at *
      obtain ⟨i1, i2, i3, i4, i5, i6, i7, i8, i9, i10, i11⟩ := ih
      have hT2 : T = F + (T - F) := by omega
      by_cases hEF : E = F
      · subst hEF
        have hS := ldS_on E (T - E) on i4
        rw [← hT2] at hS
        rw [hS]
        by_cases hI : I.2.2.2 = -1
        · obtain ⟨a1, a2, a3⟩ | ⟨a1, a2⟩ := i11
          · rw [if_neg (show ¬ (E : Int) = I.2.2.2 by omega)]
            rw [i2, a3, i1]
            by_cases c2 : I.2.1 - I.1 < (T : Int) - E
            · rw [if_pos (by omega), if_pos c2]
              simp only
              (repeat' apply And.intro) <;> first | trivial | omega | (right; constructor <;> first | trivial | omega)
            · rw [if_neg (by omega), if_neg c2]
              simp only
              (repeat' apply And.intro) <;> first | trivial | omega | (right; constructor <;> first | trivial | omega)
          · omega
        · obtain ⟨a1, a2, a3⟩ | ⟨a1, a2⟩ := i11
          · omega
          · rw [if_pos (show (E : Int) = I.2.2.2 by omega)]
            rw [i2, a2, i1]
            by_cases c2 : I.2.1 - I.1 < (T : Int) - I.2.2.1
            · rw [if_pos (by omega), if_pos c2]
              simp only
              (repeat' apply And.intro) <;> first | trivial | omega | (right; constructor <;> first | trivial | omega)
            · rw [if_neg (by omega), if_neg c2]
              simp only
              (repeat' apply And.intro) <;> first | trivial | omega | (right; constructor <;> first | trivial | omega)
      · have hO := ldS_off E i3 (F - E) (by omega) off
        rw [show E + (F - E) = F by omega] at hO
        have hS := ldS_on F (T - F) on (by rw [hO]; simpa using i3)
        rw [← hT2, hO] at hS
        rw [hS]
        simp only
        rw [i2, i1]
        rw [if_neg (show ¬ (F : Int) = I.2.2.2 by omega)]
        by_cases c2 : I.2.1 - I.1 < (T : Int) - F
        · rw [if_pos (by omega), if_pos c2]
          simp only
          (repeat' apply And.intro) <;> first | trivial | omega | (right; constructor <;> first | trivial | omega)
        · rw [if_neg (by omega), if_neg c2]
          simp only
          (repeat' apply And.intro) <;> first | trivial | omega | (right; constructor <;> first | trivial | omega)
    · rw [if_neg c, if_neg c]
      exact ih
theorem ld_end {z : List Int} {n : Nat} (ok : okSs z n = true) (p : Int) :
    (ldS (onB z n p) 168).1 = (ldI z p n).1 ∧ (ldS (onB z n p) 168).2.1 = (ldI z p n).2.1 - (ldI z p n).1 := by
  have ih := ld_meet ok p n (by omega)
  have he := endP_bd ok p n (by omega)
  simp only at ih
  obtain ⟨E, hE⟩ := Int.eq_ofNat_of_zero_le he.1
  rw [hE] at ih
  simp only [Int.toNat_natCast] at ih
  by_cases e : E = 168
  · subst e; exact ⟨ih.1, ih.2.1⟩
  · have hO := ldS_off E ih.2.2.1 (168 - E) (by omega) (fun j hj => onB_false fun i hi hp => by have := he.2.2 i hi hp; omega)
    rw [show E + (168 - E) = 168 by omega] at hO
    rw [hO]
    exact ⟨ih.1, ih.2.1⟩

theorem ldS_bd (B : Int → Bool) : ∀ h : Nat, 0 ≤ (ldS B h).1 ∧ (ldS B h).1 ≤ h ∧ 0 ≤ (ldS B h).2.1 ∧ (ldS B h).2.1 ≤ h ∧ 0 ≤ (ldS B h).2.2 ∧ (ldS B h).2.2 ≤ h
  | 0 => by simp [ldS]
  | h + 1 => by
    have ih := ldS_bd B h
    rw [ldS]
    by_cases c : B (h : Int) = true
    · simp only [if_pos c]
      split <;> simp only <;> omega
    · simp only [if_neg c]
      split <;> simp only <;> omega
theorem ldI_bd {z : List Int} {n : Nat} (ok : okSs z n = true) (p : Int) : ∀ k, k ≤ n → 0 ≤ (ldI z p k).1 ∧ (ldI z p k).1 ≤ 168 ∧ 0 ≤ (ldI z p k).2.1 ∧ (ldI z p k).2.1 ≤ 168 ∧ 0 ≤ (ldI z p k).2.2.1 ∧ (ldI z p k).2.2.1 ≤ 168 ∧ -1 ≤ (ldI z p k).2.2.2 ∧ (ldI z p k).2.2.2 ≤ 168 ∧ (((ldI z p k).1 = 0 ∧ (ldI z p k).2.1 = 0) ∨ (ldI z p k).1 < (ldI z p k).2.1)
  | 0, _ => by simp [ldI]
  | k + 1, hk => by
    have ih := ldI_bd ok p k (by omega)
    have hb := okSs_bd ok k (by omega)
    rw [ldI]
    by_cases c : shOp z k = p
    · rw [if_pos c]
      simp only
      split <;> split <;> simp only <;> omega
    · rw [if_neg c]
      exact ih
theorem onL_wf {z : List Int} {n : Nat} (ok : okSs z n = true) (h : Int) (k : Nat) (hk : k ≤ n) : ∀ x ∈ onL z h k, (Lit.int .i64 x).wf = true := fun x hx => by
  obtain ⟨i, h1, rfl, _⟩ := mem_onL.1 hx
  have := okSs_bd ok i (by omega)
  exact small_wf (by omega) (by omega)

set_option maxRecDepth 100000 in
set_option maxHeartbeats 1000000 in
theorem shOn_any (v : Value) (n : Nat) (z : List Int) (h : Int) (w : World) (hr : IntRow .i64 3 w v n z) (ok : okSs z n = true) :
    Calls Tryd.prog 34 #[v, .int .i64 h] w fun e w' => ∃ v', e = .returned v' ∧ w'.ownsRow w.heap.size 3 1 v' (onL z h n).length ((onL z h n).map (Value.int .i64)) ∧ Ext w w' := by
  have HOK := hid ok
  have hn60 := okSs_n ok
  obtain ⟨hl, hm, hwf, a, c, rfl, hnc, hcm, hcell⟩ := hr
  unfold maxLen at hm
  clear hwf ok
  go_enter Tryd.func34, Tryd.ntmps34
  go_wp2_with (fail)
  go_loopw [5, 10] (fun u i wr => ∃ (k : Nat), k ≤ n ∧ i = .int .i64 (k : Int) ∧ wr.ownsRow w.heap.size 3 1 u (onL z h k).length ((onL z h k).map (Value.int .i64)) ∧ Ext w wr)
    (fun _ i _ => n - (intOf i).toNat)
  case atStart => exact ⟨0, Nat.zero_le _, rfl, World.ownsRow_nil _ _ _ _, Ext.refl _⟩
  case round =>
    obtain ⟨k, hk, rfl, hrow, hE⟩ := hrel
    by_cases hlt : k < n
    · obtain ⟨b, o, rfl, hb, hc⟩ := hcell.resolve_left (by omega)
      obtain ⟨x0, hx0⟩ : ∃ x, x = z.getD (k * 3) 0 := ⟨_, rfl⟩
      have s0 : wr.cell? ⟨b, o + k * 3, none⟩ = some (.int .i64 x0) := by rw [(Ext.cells hE).1 _ _ hb, show o + k * 3 = o + (k * 3) by omega, hc _ (by omega), hx0]
      have H0 := hid hx0
      clear hx0
      obtain ⟨x1, hx1⟩ : ∃ x, x = z.getD (k * 3 + 1) 0 := ⟨_, rfl⟩
      have s1 : wr.cell? ⟨b, o + k * 3 + 1, none⟩ = some (.int .i64 x1) := by rw [(Ext.cells hE).1 _ _ hb, show o + k * 3 + 1 = o + (k * 3 + 1) by omega, hc _ (by omega), hx1]
      have H1 := hid hx1
      clear hx1
      obtain ⟨x2, hx2⟩ : ∃ x, x = z.getD (k * 3 + 2) 0 := ⟨_, rfl⟩
      have s2 : wr.cell? ⟨b, o + k * 3 + 2, none⟩ = some (.int .i64 x2) := by rw [(Ext.cells hE).1 _ _ hb, show o + k * 3 + 2 = o + (k * 3 + 2) by omega, hc _ (by omega), hx2]
      have H2 := hid hx2
      clear hx2
      have sb := okSs_bd HOK.out k hlt
      have E0 := hid (show shOp z k = x0 from H0.out.symm)
      have E1 := hid (show shFr z k = x1 from H1.out.symm)
      have E2 := hid (show shTo z k = x2 from H2.out.symm)
      rw [E0.out, E1.out, E2.out] at sb
      obtain ⟨sb1, sb2, sb3, sb4, sb5⟩ := sb
      have HROW := hid hrow
      have hle := onL_len_le z h k
      have hEs := hE.size
      have HLE := hid hle
      clear hc hcell hrow hle
      cases hin : inR h x1 (x2 - 1) with
      | true =>
        have HIN := hid hin
        clear hin
        go_wp2_with (go_at_call 42; refine (l1In_any _ _ _ _).mono ?_; rw [HIN.out]; rintro e w' ⟨rfl, rfl⟩)
        refine (l1Put_any w.heap.size _ (onL z h k).length (onL z h k) x0 _ (HROW.out.alloc _) (onL_wf HOK.out h k hk) (by have := HLE.out; omega) (by simp; omega)).mono ?_
        rintro e w2 ⟨v2, rfl, hr2, hb2⟩
        go_wp2_with (fail)
        go_roundw
        case rel =>
          refine ⟨k + 1, by omega, by go_num, ?_, (hE.alloc _).trans hb2⟩
          rw [onL, if_pos (by unfold hasH; rw [E1.out, E2.out]; exact HIN.out), E0.out]
          exact hr2
        case measure => simp [intOf]; omega
      | false =>
        have HIN := hid hin
        clear hin
        go_wp2_with (go_at_call 42; refine (l1In_any _ _ _ _).mono ?_; rw [HIN.out]; rintro e w' ⟨rfl, rfl⟩)
        go_roundw
        case rel =>
          refine ⟨k + 1, by omega, by go_num, ?_, hE.alloc _⟩
          rw [onL, if_neg (by unfold hasH; rw [E1.out, E2.out, HIN.out]; decide)]
          exact HROW.out.alloc _
        case measure => simp [intOf]; omega
    · obtain rfl : k = n := by omega
      have HROW := hid hrow
      clear hcell hrow
      go_wp2_with (fail)
      go_ret
      exact ⟨_, rfl, HROW.out, hE⟩

/-- asked well -/
def ldC (z : List Int) (n : Nat) (p : Int) : Bool := okSs z n && inR p 1 30
def ldFV (z : List Int) (n : Nat) (p : Int) : Int := if ldC z n p = true then (ldI z p n).1 else 0
def ldTV (z : List Int) (n : Nat) (p : Int) : Int := if ldC z n p = true then (ldI z p n).2.1 else 0
def ldBV (z : List Int) (n : Nat) (p : Int) : Bool := ldC z n p && decide (0 < (ldI z p n).2.1)

set_option maxRecDepth 100000 in
set_option maxHeartbeats 2000000 in
theorem sLongestDuty_any (v : Value) (n : Nat) (z : List Int) (p : Int) (w : World) (h : IntRow .i64 3 w v n z) :
    Calls Tryd.prog 12 #[v, .int .i64 p] w fun e w' => e = .returned (.tuple #[.int .i64 (ldFV z n p), .int .i64 (ldTV z n p), .bool (ldBV z n p)]) ∧ Ext w w' := by
  cases hok : okSs z n with
  | false =>
    have HOK := hid hok
    have hc : ldC z n p = false := by unfold ldC; rw [hok]; rfl
    rw [show ldFV z n p = 0 by unfold ldFV; rw [hc]; rfl, show ldTV z n p = 0 by unfold ldTV; rw [hc]; rfl, show ldBV z n p = false by unfold ldBV; rw [hc]; rfl]
    clear hok hc
    go_enter Tryd.func12, Tryd.ntmps12
    go_wp2_with (fail)
    refine (shGood_any v n z w h).mono ?_
    rw [HOK.out]
    rintro e w1 ⟨rfl, hb1⟩
    go_wp2_with (fail)
    go_ret3
    exact ⟨rfl, (by repeat (first | exact Ext.refl _ | assumption | refine Ext.alloc ?_ _ | refine Ext.drew ?_ | refine Ext.drewN ?_ _ | refine Ext.setCell ?_ (by first | exact Nat.le_refl _ | (simp; done) | (dsimp only; omega) | (simp only [World.size_alloc, World.size_setCell]; omega)) _ | refine Ext.trans ?_ (by assumption)))⟩
  | true =>
    have HOK := hid hok
    cases hp : inR p 1 30 with
    | false =>
      have hc : ldC z n p = false := by unfold ldC; rw [hp, Bool.and_false]
      rw [show ldFV z n p = 0 by unfold ldFV; rw [hc]; rfl, show ldTV z n p = 0 by unfold ldTV; rw [hc]; rfl, show ldBV z n p = false by unfold ldBV; rw [hc]; rfl]
      clear hok hc
      go_enter Tryd.func12, Tryd.ntmps12
      go_wp2_with (fail)
      refine (shGood_any v n z w h).mono ?_
      rw [HOK.out]
      rintro e w1 ⟨rfl, hb1⟩
      go_wp2_with (go_at_call 33; refine (shOperator_any _ _).mono ?_; rintro e w' ⟨rfl, rfl⟩)
      go_ret3
      exact ⟨rfl, (by repeat (first | exact Ext.refl _ | assumption | refine Ext.alloc ?_ _ | refine Ext.drew ?_ | refine Ext.drewN ?_ _ | refine Ext.setCell ?_ (by first | exact Nat.le_refl _ | (simp; done) | (dsimp only; omega) | (simp only [World.size_alloc, World.size_setCell]; omega)) _ | refine Ext.trans ?_ (by assumption)))⟩
    | true =>
      have hc : ldC z n p = true := by unfold ldC; rw [hok, hp]; rfl
      rw [show ldFV z n p = (ldI z p n).1 by unfold ldFV; rw [hc]; rfl, show ldTV z n p = (ldI z p n).2.1 by unfold ldTV; rw [hc]; rfl, show ldBV z n p = decide (0 < (ldI z p n).2.1) by unfold ldBV; rw [hc]; rfl]
      obtain ⟨i1, hi1⟩ : ∃ x, x = (ldI z p n).1 := ⟨_, rfl⟩
      obtain ⟨i2, hi2⟩ : ∃ x, x = (ldI z p n).2.1 := ⟨_, rfl⟩
      rw [← hi1, ← hi2]
      have HI1 := hid hi1
      have HI2 := hid hi2
      clear hi1 hi2
      have hn60 := okSs_n hok
      have pb := inR_iff.1 hp
      obtain ⟨pb1, pb2⟩ := pb
      clear hok hc
      have hh := h
      obtain ⟨hl, hm, hwf, a, c, rfl, hnc, hcm, hcell⟩ := h
      unfold maxLen at hm
      clear hwf
      go_enter Tryd.func12, Tryd.ntmps12
      go_wp2_with (fail)
      refine (shGood_any _ n z w hh).mono ?_
      rw [HOK.out]
      rintro e w1 ⟨rfl, hb1⟩
      go_wp2_with (go_at_call 33; refine (shOperator_any _ _).mono ?_; rintro e w' ⟨rfl, rfl⟩)
      clear hp
      clear hcell
      go_loopw [7, 8, 9, 10] (fun a b c i wr => ∃ (k : Nat), k ≤ 168 ∧ i = .int .i64 (k : Int) ∧ a = .int .i64 (ldS (onB z n p) k).1 ∧ b = .int .i64 (ldS (onB z n p) k).2.1 ∧ c = .int .i64 (ldS (onB z n p) k).2.2 ∧ Ext w wr)
        (fun _ _ _ i _ => 168 - (intOf i).toNat)
      case atStart => exact ⟨0, Nat.zero_le _, rfl, rfl, rfl, rfl, hb1⟩
      case round =>
        obtain ⟨k, hk, rfl, rfl, rfl, rfl, hE⟩ := hrel
        have db := ldS_bd (onB z n p) k
        obtain ⟨S, hS⟩ : ∃ S, S = ldS (onB z n p) k := ⟨_, rfl⟩
        have hst : ldS (onB z n p) (k + 1) = (let r := if onB z n p (k : Int) = true then S.2.2 + 1 else 0; if S.2.1 < r then ((k : Int) - r + 1, r, r) else (S.1, S.2.1, r)) := by rw [hS]; rfl
        rw [← hS] at db ⊢
        have HS := hid hS
        clear hS
        obtain ⟨f, m, r⟩ := S
        simp only at db hst ⊢
        obtain ⟨db1, db2, db3, db4, db5, db6⟩ := db
        by_cases hlt : k < 168
        · cases hon : onB z n p (k : Int) with
          | true =>
            rw [hon] at hst
            simp only [↓reduceIte] at hst
            have HON := hid (show decide (p ∈ onL z (k : Int) n) = true from hon)
            have HST := hid hst
            clear hst hon
            by_cases hm2 : m < r + 1
            · have HST2 := hid (show ldS (onB z n p) (k + 1) = ((k : Int) - (r + 1) + 1, r + 1, r + 1) by rw [HST.out, if_pos hm2])
              go_wp2_with (fail)
              refine (shOn_any _ n z (k : Int) _ (hh.ext hE) HOK.out).mono ?_
              rintro e w2 ⟨v2, rfl, hr2, hb2⟩
              go_wp2_with (fail)
              refine (l1Has_any _ _ (onL z (k : Int) n) p _ (row_ints hr2 (by have := onL_len_le z (k : Int) n; unfold maxLen; omega) (onL_wf HOK.out _ _ (Nat.le_refl _)))).mono ?_
              rw [HON.out]
              rintro e w3 ⟨rfl, rfl⟩
              go_wp2_with (fail)
              go_roundw
              case rel => exact ⟨k + 1, by omega, by go_num, by rw [HST2.out], by rw [HST2.out], by rw [HST2.out], hE.trans hb2⟩
              case measure => simp [intOf]; omega
            · have HST2 := hid (show ldS (onB z n p) (k + 1) = (f, m, r + 1) by rw [HST.out, if_neg hm2])
              go_wp2_with (fail)
              refine (shOn_any _ n z (k : Int) _ (hh.ext hE) HOK.out).mono ?_
              rintro e w2 ⟨v2, rfl, hr2, hb2⟩
              go_wp2_with (fail)
              refine (l1Has_any _ _ (onL z (k : Int) n) p _ (row_ints hr2 (by have := onL_len_le z (k : Int) n; unfold maxLen; omega) (onL_wf HOK.out _ _ (Nat.le_refl _)))).mono ?_
              rw [HON.out]
              rintro e w3 ⟨rfl, rfl⟩
              go_wp2_with (fail)
              go_roundw
              case rel => exact ⟨k + 1, by omega, by go_num, by rw [HST2.out], by rw [HST2.out], by rw [HST2.out], hE.trans hb2⟩
              case measure => simp [intOf]; omega
          | false =>
            rw [hon] at hst
            simp only [Bool.false_eq_true, ↓reduceIte] at hst
            have HON := hid (show decide (p ∈ onL z (k : Int) n) = false from hon)
            have HST2 := hid (show ldS (onB z n p) (k + 1) = (f, m, 0) by rw [hst, if_neg (by omega)])
            clear hst hon
            go_wp2_with (fail)
            refine (shOn_any _ n z (k : Int) _ (hh.ext hE) HOK.out).mono ?_
            rintro e w2 ⟨v2, rfl, hr2, hb2⟩
            go_wp2_with (fail)
            refine (l1Has_any _ _ (onL z (k : Int) n) p _ (row_ints hr2 (by have := onL_len_le z (k : Int) n; unfold maxLen; omega) (onL_wf HOK.out _ _ (Nat.le_refl _)))).mono ?_
            rw [HON.out]
            rintro e w3 ⟨rfl, rfl⟩
            go_wp2_with (fail)
            go_roundw
            case rel => exact ⟨k + 1, by omega, by go_num, by rw [HST2.out], by rw [HST2.out], by rw [HST2.out], hE.trans hb2⟩
            case measure => simp [intOf]; omega
        · obtain rfl : k = 168 := by omega
          have le := ld_end HOK.out p
          rw [← HS.out] at le
          simp only at le
          obtain ⟨le1, le2⟩ := le
          have ib := ldI_bd HOK.out p n (Nat.le_refl _)
          clear hst hlt
          rw [← HI1.out] at le1 le2 ib
          rw [← HI2.out] at le2 ib
          have ib9 := ib.2.2.2.2.2.2.2.2
          have ib1 := ib.1
          have ib3 := ib.2.2.1
          clear ib
          by_cases hm0 : m = 0
          · have G1 := hid (show i1 = 0 by omega)
            have G2 := hid (show i2 = 0 by omega)
            subst hm0
            clear le1 le2 ib9
            go_wp2_with (fail)
            go_ret3
            exact ⟨by rw [G1.out, G2.out]; rfl, hE⟩
          · have hmb : (m == 0) = false := by simpa using hm0
            have hm1 : 1 ≤ m := by omega
            have g0 : decide (0 < i2) = true := decide_eq_true (by omega)
            have g2 : i2 = f + m := by omega
            have G0 := hid g0
            have G2 := hid g2
            have G1 := hid le1
            clear le1 le2 ib9 g0 g2 hm0
            go_wp2_with (fail)
            go_ret3
            exact ⟨by rw [G0.out, G2.out, ← G1.out]; rfl, hE⟩

set_option maxRecDepth 100000 in
set_option maxHeartbeats 2000000 in
theorem iLongestDuty_any (v : Value) (n : Nat) (z : List Int) (p : Int) (w : World) (h : IntRow .i64 3 w v n z) :
    Calls Tryd.prog 11 #[v, .int .i64 p] w fun e w' => e = .returned (.tuple #[.int .i64 (ldFV z n p), .int .i64 (ldTV z n p), .bool (ldBV z n p)]) ∧ Ext w w' := by
  cases hok : okSs z n with
  | false =>
    have HOK := hid hok
    have hc : ldC z n p = false := by unfold ldC; rw [hok]; rfl
    rw [show ldFV z n p = 0 by unfold ldFV; rw [hc]; rfl, show ldTV z n p = 0 by unfold ldTV; rw [hc]; rfl, show ldBV z n p = false by unfold ldBV; rw [hc]; rfl]
    clear hok hc
    go_enter Tryd.func11, Tryd.ntmps11
    go_wp2_with (fail)
    refine (iAreShifts_any v n z w h).mono ?_
    rw [HOK.out]
    rintro e w1 ⟨rfl, hb1⟩
    go_wp2_with (fail)
    go_ret3
    exact ⟨rfl, (by repeat (first | exact Ext.refl _ | assumption | refine Ext.alloc ?_ _ | refine Ext.drew ?_ | refine Ext.drewN ?_ _ | refine Ext.setCell ?_ (by first | exact Nat.le_refl _ | (simp; done) | (dsimp only; omega) | (simp only [World.size_alloc, World.size_setCell]; omega)) _ | refine Ext.trans ?_ (by assumption)))⟩
  | true =>
    have HOK := hid hok
    cases hp : inR p 1 30 with
    | false =>
      have hc : ldC z n p = false := by unfold ldC; rw [hp, Bool.and_false]
      rw [show ldFV z n p = 0 by unfold ldFV; rw [hc]; rfl, show ldTV z n p = 0 by unfold ldTV; rw [hc]; rfl, show ldBV z n p = false by unfold ldBV; rw [hc]; rfl]
      clear hok hc
      go_enter Tryd.func11, Tryd.ntmps11
      go_wp2_with (fail)
      refine (iAreShifts_any v n z w h).mono ?_
      rw [HOK.out]
      rintro e w1 ⟨rfl, hb1⟩
      go_wp2_with (go_at_call 31; refine (isOperator_any _ _).mono ?_; rintro e w' ⟨rfl, rfl⟩)
      go_ret3
      exact ⟨rfl, (by repeat (first | exact Ext.refl _ | assumption | refine Ext.alloc ?_ _ | refine Ext.drew ?_ | refine Ext.drewN ?_ _ | refine Ext.setCell ?_ (by first | exact Nat.le_refl _ | (simp; done) | (dsimp only; omega) | (simp only [World.size_alloc, World.size_setCell]; omega)) _ | refine Ext.trans ?_ (by assumption)))⟩
    | true =>
      have hc : ldC z n p = true := by unfold ldC; rw [hok, hp]; rfl
      rw [show ldFV z n p = (ldI z p n).1 by unfold ldFV; rw [hc]; rfl, show ldTV z n p = (ldI z p n).2.1 by unfold ldTV; rw [hc]; rfl, show ldBV z n p = decide (0 < (ldI z p n).2.1) by unfold ldBV; rw [hc]; rfl]
      obtain ⟨i1, hi1⟩ : ∃ x, x = (ldI z p n).1 := ⟨_, rfl⟩
      obtain ⟨i2, hi2⟩ : ∃ x, x = (ldI z p n).2.1 := ⟨_, rfl⟩
      rw [← hi1, ← hi2]
      have HI1 := hid hi1
      have HI2 := hid hi2
      clear hi1 hi2
      have hn60 := okSs_n hok
      have pb := inR_iff.1 hp
      obtain ⟨pb1, pb2⟩ := pb
      clear hok hc
      have hh := h
      obtain ⟨hl, hm, hwf, a, c, rfl, hnc, hcm, hcell⟩ := h
      unfold maxLen at hm
      clear hwf
      go_enter Tryd.func11, Tryd.ntmps11
      go_wp2_with (fail)
      refine (iAreShifts_any _ n z w hh).mono ?_
      rw [HOK.out]
      rintro e w1 ⟨rfl, hb1⟩
      go_wp2_with (go_at_call 31; refine (isOperator_any _ _).mono ?_; rintro e w' ⟨rfl, rfl⟩)
      clear hp
      go_loopw [7, 8, 9, 10, 23] (fun a b c d i wr => ∃ (k : Nat), k ≤ n ∧ i = .int .i64 (k : Int) ∧ a = .int .i64 (ldI z p k).1 ∧ b = .int .i64 (ldI z p k).2.1 ∧ c = .int .i64 (ldI z p k).2.2.1 ∧ d = .int .i64 (ldI z p k).2.2.2 ∧ Ext w wr)
        (fun _ _ _ _ i _ => n - (intOf i).toNat)
      case atStart => exact ⟨0, Nat.zero_le _, rfl, rfl, rfl, rfl, rfl, hb1⟩
      case round =>
        obtain ⟨k, hk, rfl, rfl, rfl, rfl, rfl, hE⟩ := hrel
        have db := ldI_bd HOK.out p k hk
        obtain ⟨S, hS⟩ : ∃ S, S = ldI z p k := ⟨_, rfl⟩
        have hst : ldI z p (k + 1) = (if shOp z k = p then
            (let b := if shFr z k = S.2.2.2 then S.2.2.1 else shFr z k
             if S.2.1 - S.1 < shTo z k - b then (b, shTo z k, b, shTo z k) else (S.1, S.2.1, b, shTo z k)) else S) := by rw [hS]; rfl
        rw [← hS] at db ⊢
        have HS := hid hS
        clear hS
        obtain ⟨f, t, bg, en⟩ := S
        simp only at db hst ⊢
        obtain ⟨db1, db2, db3, db4, db5, db6, db7, db8, db9⟩ := db
        by_cases hlt : k < n
        · obtain ⟨b, o, rfl, hb, hc⟩ := hcell.resolve_left (by omega)
          obtain ⟨x0, hx0⟩ : ∃ x, x = z.getD (k * 3) 0 := ⟨_, rfl⟩
          have s0 : wr.cell? ⟨b, o + k * 3, none⟩ = some (.int .i64 x0) := by rw [(Ext.cells hE).1 _ _ hb, show o + k * 3 = o + (k * 3) by omega, hc _ (by omega), hx0]
          have H0 := hid hx0
          clear hx0
          obtain ⟨x1, hx1⟩ : ∃ x, x = z.getD (k * 3 + 1) 0 := ⟨_, rfl⟩
          have s1 : wr.cell? ⟨b, o + k * 3 + 1, none⟩ = some (.int .i64 x1) := by rw [(Ext.cells hE).1 _ _ hb, show o + k * 3 + 1 = o + (k * 3 + 1) by omega, hc _ (by omega), hx1]
          have H1 := hid hx1
          clear hx1
          obtain ⟨x2, hx2⟩ : ∃ x, x = z.getD (k * 3 + 2) 0 := ⟨_, rfl⟩
          have s2 : wr.cell? ⟨b, o + k * 3 + 2, none⟩ = some (.int .i64 x2) := by rw [(Ext.cells hE).1 _ _ hb, show o + k * 3 + 2 = o + (k * 3 + 2) by omega, hc _ (by omega), hx2]
          have H2 := hid hx2
          clear hx2
          have sb := okSs_bd HOK.out k hlt
          have E0 := hid (show shOp z k = x0 from H0.out.symm)
          have E1 := hid (show shFr z k = x1 from H1.out.symm)
          have E2 := hid (show shTo z k = x2 from H2.out.symm)
          rw [E0.out, E1.out, E2.out] at sb hst
          obtain ⟨sb1, sb2, sb3, sb4, sb5⟩ := sb
          clear hc hcell
          by_cases hpp : x0 = p
          · rw [if_pos hpp] at hst
            have hpb : (x0 == p) = true := by simpa using hpp
            have hpn : (x0 != p) = false := by simpa using hpp
            by_cases hfe : x1 = en
            · rw [if_pos hfe] at hst
              have hfb : (x1 == en) = true := by simpa using hfe
              have hfn : (x1 != en) = false := by simpa using hfe
              have HST := hid hst
              clear hst hpp hfe db9
              by_cases hc2 : t - f < x2 - bg
              · have HST2 := hid (show ldI z p (k + 1) = (bg, x2, bg, x2) by rw [HST.out, if_pos hc2])
                have hc2b : decide (t - f < x2 - bg) = true := decide_eq_true hc2
                go_wp2_with (fail)
                go_roundw
                case rel => exact ⟨k + 1, by omega, by go_num, by rw [HST2.out], by rw [HST2.out], by rw [HST2.out], by rw [HST2.out], hE.alloc _⟩
                case measure => simp [intOf]; omega
              · have HST2 := hid (show ldI z p (k + 1) = (f, t, bg, x2) by rw [HST.out, if_neg hc2])
                have hc2b : decide (t - f < x2 - bg) = false := decide_eq_false hc2
                go_wp2_with (fail)
                go_roundw
                case rel => exact ⟨k + 1, by omega, by go_num, by rw [HST2.out], by rw [HST2.out], by rw [HST2.out], by rw [HST2.out], hE.alloc _⟩
                case measure => simp [intOf]; omega
            · rw [if_neg hfe] at hst
              have hfb : (x1 == en) = false := by simpa using hfe
              have hfn : (x1 != en) = true := by simpa using hfe
              have HST := hid hst
              clear hst hpp hfe db9
              by_cases hc2 : t - f < x2 - x1
              · have HST2 := hid (show ldI z p (k + 1) = (x1, x2, x1, x2) by rw [HST.out, if_pos hc2])
                have hc2b : decide (t - f < x2 - x1) = true := decide_eq_true hc2
                go_wp2_with (fail)
                go_roundw
                case rel => exact ⟨k + 1, by omega, by go_num, by rw [HST2.out], by rw [HST2.out], by rw [HST2.out], by rw [HST2.out], hE.alloc _⟩
                case measure => simp [intOf]; omega
              · have HST2 := hid (show ldI z p (k + 1) = (f, t, x1, x2) by rw [HST.out, if_neg hc2])
                have hc2b : decide (t - f < x2 - x1) = false := decide_eq_false hc2
                go_wp2_with (fail)
                go_roundw
                case rel => exact ⟨k + 1, by omega, by go_num, by rw [HST2.out], by rw [HST2.out], by rw [HST2.out], by rw [HST2.out], hE.alloc _⟩
                case measure => simp [intOf]; omega
          · rw [if_neg hpp] at hst
            have hpb : (x0 == p) = false := by simpa using hpp
            have hpn : (x0 != p) = true := by simpa using hpp
            have HST2 := hid hst
            clear hst hpp db9
            go_wp2_with (fail)
            go_roundw
            case rel => exact ⟨k + 1, by omega, by go_num, by rw [HST2.out], by rw [HST2.out], by rw [HST2.out], by rw [HST2.out], hE.alloc _⟩
            case measure => simp [intOf]; omega
        · obtain rfl : k = n := by omega
          have HS1 := hid (show i1 = f by rw [HI1.out, ← HS.out])
          have HS2 := hid (show i2 = t by rw [HI2.out, ← HS.out])
          clear hcell hst db9
          by_cases ht : 0 < t
          · have htb : decide (0 < t) = true := decide_eq_true ht
            go_wp2_with (fail)
            go_ret3
            exact ⟨by rw [HS1.out, HS2.out, htb]; rfl, hE⟩
          · have htb : decide (0 < t) = false := decide_eq_false ht
            go_wp2_with (fail)
            go_ret3
            exact ⟨by rw [HS1.out, HS2.out, htb]; rfl, hE⟩

end Go.Proofs.YtedkffdkhnfoiaaDoor
