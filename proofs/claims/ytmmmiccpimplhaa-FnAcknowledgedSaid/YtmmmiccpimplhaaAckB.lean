/- The chapter of acknowledgements: the program's rounds; the bits of a number as a list. No condition. -/
import Derived.Test.YtmmmiccpimplhaaAckA
namespace Go.Proofs.Ytmmmiccpimplhaa
open Go.RowKit
set_option linter.unusedSimpArgs false
set_option linter.unusedVariables false

theorem div_pow_cast (K p : Nat) : (K : Int) / 2 ^ p = ((K / 2 ^ p : Nat) : Int) := by push_cast; rfl
theorem bit_val (K p : Nat) : K / 2 ^ p % 2 = if K.testBit p = true then 1 else 0 := by
  rw [Nat.testBit_eq_decide_div_mod_eq]
  have := Nat.mod_lt (K / 2 ^ p) (show 0 < 2 by omega)
  by_cases c : K / 2 ^ p % 2 = 1
  · simp [c]
  · simp [c]; omega
theorem shr_u64 {K p : Nat} (hK : K < 18446744073709551616) : bits .and .u64 ((K : Int) / 2 ^ p) 1 = if K.testBit p = true then 1 else 0 := by
  have hd : K / 2 ^ p ≤ K := Nat.div_le_self _ _
  rw [div_pow_cast, show (1 : Int) = ((1 : Nat) : Int) from rfl, u64_and_nat _ _ (by omega) (by omega), nat_mask1, bit_val]
  split <;> rfl
theorem i64_and (a b : Nat) (ha : a < 9223372036854775808) (hb : b < 9223372036854775808) : bits .and .i64 (a : Int) (b : Int) = ((a &&& b : Nat) : Int) := by
  have hx : a &&& b < 2 ^ 63 := Nat.and_lt_two_pow _ (by omega)
  show IntKind.i64.wrap ((BitVec.ofInt 64 (a : Int) &&& BitVec.ofInt 64 (b : Int)).toNat : Int) = _
  rw [BitVec.toNat_and, ofInt_u64 a (by omega), ofInt_u64 b (by omega), IntKind.wrap_i64]
  omega
theorem shr_i64 {K p : Nat} (hK : K < 9223372036854775808) : bits .and .i64 ((K : Int) / 2 ^ p) 1 = if K.testBit p = true then 1 else 0 := by
  have hd : K / 2 ^ p ≤ K := Nat.div_le_self _ _
  rw [div_pow_cast, show (1 : Int) = ((1 : Nat) : Int) from rfl, i64_and _ _ (by omega) (by omega), nat_mask1, bit_val]
  split <;> rfl
theorem bit9_i64 {l : Nat} (hl : l < 9223372036854775808) : bits .and .i64 (l : Int) 512 = if l.testBit 9 = true then 512 else 0 := by
  rw [show (512 : Int) = ((512 : Nat) : Int) from rfl, i64_and _ _ hl (by omega), show (512 : Nat) = 2 ^ 9 from rfl, nat_bit, bit_val]
  split <;> rfl
theorem pow_small {p : Nat} (hp : p ≤ 9) : 2 ^ p ≤ 512 := Nat.pow_le_pow_right (by omega) hp
theorem wrap_pow {p : Nat} (hp : p ≤ 9) : IntKind.u64.wrap (2 ^ p) = (2 : Int) ^ p := by
  have := pow_small hp
  rw [IntKind.wrap_u64, show (2 : Int) ^ p = ((2 ^ p : Nat) : Int) by push_cast; rfl]
  generalize 2 ^ p = q at *
  omega
theorem or_u64 {a p : Nat} (ha : a < 512) (hp : p ≤ 9) : bits .or .u64 (a : Int) ((2 : Int) ^ p) = ((a ||| 2 ^ p : Nat) : Int) := by
  have := pow_small hp
  rw [show (2 : Int) ^ p = ((2 ^ p : Nat) : Int) by push_cast; rfl]
  exact u64_or_nat _ _ (by omega) (by omega)

/-- what is lost in round r -/
def lfZ (z : List Int) (n : Nat) (r : Nat) : Nat := if r < n then (z.getD r 0).toNat else 0
theorem lfZ_bd {z : List Int} {n : Nat} (h : scB z n = true) (r : Nat) : lfZ z n r ≤ 1023 := by
  unfold lfZ
  split
  · rename_i hr
    have := (scB_iff h).2 r hr
    omega
  · omega
theorem rdS_stay {A K l w p : Nat} (h : w ≤ (rdS A K l w p).s) : ∀ d, rdS A K l w (p + d) = rdS A K l w p
  | 0 => rfl
  | d + 1 => by
    rw [show p + (d + 1) = (p + d) + 1 by omega, rdS]
    rw [rdS_stay h d, if_neg (by omega)]
/-- the five cells of what has happened -/
def akC (x : Ak) : List Value := [.int .u64 (x.A : Int), .int .u64 (x.K : Int), .int .i64 (x.r : Int), .int .i64 (x.s : Int), .int .i64 (x.d : Int)]
def cellNat (w : World) (g j : Nat) : Nat := match w.cell? ⟨g, j, none⟩ with | some v => (intOf v).toNat | none => 0

theorem ownsRow_other {w : World} {base e size : Nat} {g n cap m : Nat} {xs : List Value} (h : w.ownsRow base e size (.slice (some ⟨g, 0, none⟩) n cap) m xs) {b : Nat} (hne : g ≠ b) (o : Nat) (u : Value) : (w.setCell ⟨b, o, none⟩ u).ownsRow base e size (.slice (some ⟨g, 0, none⟩) n cap) m xs :=
  h.kept (row := some b) ⟨rfl, rfl, rfl, by simp, fun k _ hk => heap_setCell_other w ⟨b, o, none⟩ k u (fun e => hk (by rw [e]))⟩ (.inr (by simp [Value.ownBlock]; exact hne))
theorem ownsRow_block {w : World} {base size g : Nat} {e : TypeId} {xs : List Value} (h : w.ownsRow base e size (.slice (some ⟨g, 0, none⟩) 1 1) 1 xs) : w.heap[g]? = some (.cells xs.toArray e (0, 0)) := by
  obtain ⟨hl, h⟩ := h
  rcases h with ⟨h', _⟩ | ⟨g', cap', cur, h', hb, hg, hnc, hcm, hcs, htake⟩
  · simp at h'
  · simp only [Value.slice.injEq, Option.some.injEq, Addr.mk.injEq, and_true, true_and] at h'
    obtain ⟨rfl, rfl⟩ := h'
    rw [hg, ← htake, List.take_of_length_le (by simp [hcs])]

set_option maxRecDepth 100000 in
set_option maxHeartbeats 16000000 in
theorem runRounds_any (N W k : Nat) (v : Value) (n : Nat) (z : List Int) (w : World) (h : IntRow .i64 1 w v n z) (hs : scB z n = true) (hN : 1 ≤ N) (hN2 : N ≤ 9) (hW : 1 ≤ W) (hW2 : W ≤ 9) (hk : k ≤ 1000) :
    Calls Try.prog 41 #[.int .i64 (N : Int), .int .i64 (W : Int), v, .int .i64 (k : Int)] w fun e w' => e = .returned (.agg (akC (akS N W (lfZ z n) k)).toArray) ∧ Ext w w' := by
  obtain ⟨hl, hm, hwf, a, c, rfl, hnc, hcm, hcell⟩ := h
  unfold maxLen at hm
  have HS := hid hs
  have hn30 := (scB_iff hs).1
  have HC := hid hcell
  clear hwf hs hcell
  have hp9 := pow_small hN2
  have hp1 := Nat.two_pow_pos N
  obtain ⟨M, hM⟩ : ∃ M : Int, M = ((2 ^ N : Nat) : Int) := ⟨_, rfl⟩
  obtain ⟨F, hF⟩ : ∃ F : Nat, F = 2 ^ N - 1 := ⟨_, rfl⟩
  have hw1 : IntKind.u64.wrap (2 ^ N) = M := by rw [hM, wrap_pow hN2]; push_cast; rfl
  have hw2 : IntKind.u64.wrap (M - 1) = (F : Int) := by rw [IntKind.wrap_u64]; omega
  have HF := hid hF
  have hF2 : F ≤ 511 := by omega
  clear hM hF hp9 hp1
  go_enter Try.func41, Try.ntmps41
  go_wp2_with (fail)
  clear hw1 hw2
  have hR0 : ((w.alloc (.cells #[.int .u64 0, .int .u64 0, .int .i64 0, .int .i64 0, .int .i64 0] 54)).alloc (.cells #[.int .u64 0, .int .u64 0, .int .i64 0, .int .i64 0, .int .i64 0] 54)).ownsRow (w.heap.size + 1) 54 5 (.slice (some ⟨w.heap.size + 1, 0, none⟩) 1 1) 1 (akC (akS N W (lfZ z n) 0)) := by
    have := World.ownsRow_lit (base := w.heap.size + 1) (e := 54) (size := 5) (w.alloc (.cells #[.int .u64 0, .int .u64 0, .int .i64 0, .int .i64 0, .int .i64 0] 54)) #[.int .u64 0, .int .u64 0, .int .i64 0, .int .i64 0, .int .i64 0] 1 (by simp) (by simp [maxLen]) rfl
    rw [show akC (akS N W (lfZ z n) 0) = [.int .u64 0, .int .u64 0, .int .i64 0, .int .i64 0, .int .i64 0] from rfl]
    simpa using this
  have hQ0 : ((w.alloc (.cells #[.int .u64 0, .int .u64 0, .int .i64 0, .int .i64 0, .int .i64 0] 54)).alloc (.cells #[.int .u64 0, .int .u64 0, .int .i64 0, .int .i64 0, .int .i64 0] 54)).ownsRow w.heap.size 54 5 (.slice (some ⟨w.heap.size, 0, none⟩) 1 1) 1 [.int .u64 0, .int .u64 0, .int .i64 0, .int .i64 0, .int .i64 0] :=
    (World.ownsRow_lit (base := w.heap.size) (e := 54) (size := 5) w #[.int .u64 0, .int .u64 0, .int .i64 0, .int .i64 0, .int .i64 0] 1 (Nat.le_refl _) (by simp [maxLen]) rfl).alloc _
  have hX0 : Ext w ((w.alloc (.cells #[.int .u64 0, .int .u64 0, .int .i64 0, .int .i64 0, .int .i64 0] 54)).alloc (.cells #[.int .u64 0, .int .u64 0, .int .i64 0, .int .i64 0, .int .i64 0] 54)) := (by repeat (first | exact Ext.refl _ | assumption | refine Ext.alloc ?_ _ | refine Ext.drew ?_ | refine Ext.drewN ?_ _ | refine Ext.setCell ?_ (by first | exact Nat.le_refl _ | (simp; done) | (dsimp only; omega) | (simp only [World.size_alloc, World.size_setCell]; omega)) _ | refine Ext.trans ?_ (by assumption)))
  obtain ⟨g8, hg8⟩ : ∃ g, g = w.heap.size := ⟨_, rfl⟩
  rw [← hg8] at hR0 hQ0 ⊢
  have hg8' : w.heap.size ≤ g8 := by omega
  obtain ⟨g, hg⟩ : ∃ g, g = g8 + 1 := ⟨_, rfl⟩
  rw [← hg] at hR0 ⊢
  have hgg : g8 < g := by omega
  have hgw : w.heap.size ≤ g := by omega
  have hg88 : g8 ≠ g := by omega
  clear hg8 hg
  generalize (w.alloc (.cells #[.int .u64 0, .int .u64 0, .int .i64 0, .int .i64 0, .int .i64 0] 54)).alloc (.cells #[.int .u64 0, .int .u64 0, .int .i64 0, .int .i64 0, .int .i64 0] 54) = wa at *
  go_loopw [11] (fun q wr => ∃ (j : Nat), j ≤ k ∧ (akS N W (lfZ z n) j).r = j ∧ wr.ownsRow g 54 5 (.slice (some ⟨g, 0, none⟩) 1 1) 1 (akC (akS N W (lfZ z n) j)) ∧ wr.ownsRow g8 54 5 (.slice (some ⟨g8, 0, none⟩) 1 1) 1 [.int .u64 0, .int .u64 0, .int .i64 0, .int .i64 0, .int .i64 0] ∧ Ext w wr)
    (fun _ wr => k - cellNat wr g 2)
  case atStart => exact ⟨0, Nat.zero_le _, rfl, hR0, hQ0, hX0⟩
  case round =>
    clear hR0 hQ0 hX0
    obtain ⟨j, hj, hrj, hR, hQ, hX⟩ := hrel
    have bd := akS_bd N W (lfZ z n) j
    have hst : akS N W (lfZ z n) (j + 1) = (if (akS N W (lfZ z n) j).K = F then akS N W (lfZ z n) j else
      (⟨(akS N W (lfZ z n) j).r + 1, (rdS (akS N W (lfZ z n) j).A (akS N W (lfZ z n) j).K (lfZ z n (akS N W (lfZ z n) j).r) W N).N, if (lfZ z n (akS N W (lfZ z n) j).r).testBit 9 = true then (akS N W (lfZ z n) j).K else (rdS (akS N W (lfZ z n) j).A (akS N W (lfZ z n) j).K (lfZ z n (akS N W (lfZ z n) j).r) W N).N, (akS N W (lfZ z n) j).s + (rdS (akS N W (lfZ z n) j).A (akS N W (lfZ z n) j).K (lfZ z n (akS N W (lfZ z n) j).r) W N).s, (akS N W (lfZ z n) j).d + (rdS (akS N W (lfZ z n) j).A (akS N W (lfZ z n) j).K (lfZ z n (akS N W (lfZ z n) j).r) W N).d⟩ : Ak)) := by rw [HF.out]; rfl
    have hstay := akS_stay (n := N) (w := W) (l := lfZ z n) (k := j)
    rw [← HF.out] at hstay
    obtain ⟨X, hXe⟩ : ∃ X, X = akS N W (lfZ z n) j := ⟨_, rfl⟩
    rw [← hXe] at hrj hR bd hst hstay
    have HXE := hid hXe
    obtain ⟨r, A, K, s, d⟩ := X
    simp only at hrj bd hst hstay
    subst hrj
    obtain ⟨bd1, bd2, bd3, bd4, bd5, bd6⟩ := bd
    have hpN := pow_small hN2
    have bA : A < 512 := by omega
    have bK : K < 512 := by omega
    have b4 : N * r ≤ 9 * 1000 := Nat.mul_le_mul hN2 (by omega)
    have bs : s ≤ 9000 := by omega
    have bd' : d ≤ 9000 := by omega
    have HST := hid hst
    have HSTAY := hid hstay
    have c0 : wr.cell? ⟨g, 0, none⟩ = some (.int .u64 (A : Int)) := hR.cellAt 0 (by omega)
    have c1 : wr.cell? ⟨g, 1, none⟩ = some (.int .u64 (K : Int)) := hR.cellAt 1 (by omega)
    have c2 : wr.cell? ⟨g, 2, none⟩ = some (.int .i64 (r : Int)) := hR.cellAt 2 (by omega)
    have f0 := hR.frozenAt 0
    have f1 := hR.frozenAt 1
    have f2 := hR.frozenAt 2
    have c3 : wr.cell? ⟨g, 3, none⟩ = some (.int .i64 (s : Int)) := hR.cellAt 3 (by omega)
    have c4 : wr.cell? ⟨g, 4, none⟩ = some (.int .i64 (d : Int)) := hR.cellAt 4 (by omega)
    have f3 := hR.frozenAt 3
    have f4 := hR.frozenAt 4
    have q0 : wr.cell? ⟨g8, 0, none⟩ = some (.int .u64 0) := hQ.cellAt 0 (by omega)
    have q1 : wr.cell? ⟨g8, 1, none⟩ = some (.int .u64 0) := hQ.cellAt 1 (by omega)
    have q2 : wr.cell? ⟨g8, 2, none⟩ = some (.int .i64 0) := hQ.cellAt 2 (by omega)
    have q3 : wr.cell? ⟨g8, 3, none⟩ = some (.int .i64 0) := hQ.cellAt 3 (by omega)
    have q4 : wr.cell? ⟨g8, 4, none⟩ = some (.int .i64 0) := hQ.cellAt 4 (by omega)
    have p0 := hQ.frozenAt 0
    have p1 := hQ.frozenAt 1
    have p2 := hQ.frozenAt 2
    have p3 := hQ.frozenAt 3
    have p4 := hQ.frozenAt 4
    have hcn : cellNat wr g 2 = r := by unfold cellNat; rw [c2]; simp [intOf]
    have HCN := hid hcn
    have HR := hid hR
    have HQ := hid hQ
    have hgs : g < wr.heap.size := (hR.lt _ rfl).2
    have hgs8 : g8 < wr.heap.size := (hQ.lt _ rfl).2
    have HA2 := hid bd2
    have HB6 := hid bd6
    clear hst hstay hXe hcn hR hQ bd2 bd3 bd4 bd5 bd6 hpN b4 bd1
    by_cases hKF : K = F
    · have t1 : ((K : Int) != (F : Int)) = false := by simp; omega
      have t2 : (K != F) = false := by simp; omega
      have HE := hid (show akS N W (lfZ z n) k = ⟨r, A, K, s, d⟩ by
        have := HSTAY.out hKF (k - r)
        rw [show r + (k - r) = k by omega] at this
        exact this)
      clear hKF
      go_wp2_with (fail)
      have e5 := ((((((HQ.out.stored 0 (.int .u64 (A : Int))).1).stored 1 (.int .u64 (K : Int))).1.stored 2 (.int .i64 (r : Int))).1.stored 3 (.int .i64 (s : Int))).1.stored 4 (.int .i64 (d : Int))).1
      refine bodyPost_ret (results_cell_row Try.results41 _ _ g8 54 (akC ⟨r, A, K, s, d⟩).toArray (0, 0) _ rfl (ownsRow_block e5) Try.underlying54 rfl (by kernel_rfl)) rfl ⟨by rw [HE.out], ?_⟩
      exact ((((hX.setCell hg8' _).setCell hg8' _).setCell hg8' _).setCell hg8' _).setCell hg8' _
    · have t1 : ((K : Int) != (F : Int)) = true := by simp; omega
      have t2 : (K != F) = true := by simp; omega
      by_cases hrk : r < k
      · have hnx := HST.out
        rw [if_neg hKF] at hnx
        have hLb := lfZ_bd HS.out r
        have hLe : lfZ z n r = if r < n then (z.getD r 0).toNat else 0 := rfl
        have hL0 := fun hr => ((scB_iff HS.out).2 r hr).1
        obtain ⟨L, hL⟩ : ∃ L, L = lfZ z n r := ⟨_, rfl⟩
        rw [← hL] at hnx hLb hLe
        have HNX := hid hnx
        have HR2 := hid (show wr.ownsRow g 54 5 (.slice (some ⟨g, 0, none⟩) 1 1) 1 (akC ⟨r, (rdS A K L W 0).N, K, s + (rdS A K L W 0).s, d + (rdS A K L W 0).d⟩) from HR.out)
        clear hnx HST HSTAY HXE HB6 c3 c4 f3 f4 q0 q1 q2 q3 q4 p0 p1 p2 p3 p4 hKF HF hL
        by_cases hrn : r < n
        · obtain ⟨b, o, rfl, hb, hcell⟩ := HC.out.resolve_left (by omega)
          have hz0 := hL0 hrn
          rw [if_pos hrn] at hLe
          have cs : wr.cell? ⟨b, o + r, none⟩ = some (.int .i64 (L : Int)) := by
            rw [(Ext.cells hX).1 _ _ hb, hcell r (by omega)]
            congr 2; omega
          clear hL0 hLe hz0 hcell
          go_wp2_with (fail)
          clear t1 t2 c1 c2 f0 f1 f2 cs
          have hyc : ∀ p, (rdS A K L W p).s ≤ p ∧ (rdS A K L W p).d ≤ (rdS A K L W p).s ∧ (rdS A K L W p).s ≤ W := rdS_bd A K L W
          have HYC := hid hyc
          clear hyc
          obtain ⟨wo, rfl⟩ : ∃ wo : World, wo = wr := ⟨_, rfl⟩
          go_loopw [12, 13, 14] (fun q12 q13 q14 wr => ∃ (p : Nat), p ≤ N ∧ q12 = .int .u64 ((rdS A K L W p).N : Int) ∧ q13 = .int .i64 (p : Int) ∧ q14 = .int .i64 ((W : Int) - (rdS A K L W p).s) ∧ wr.ownsRow g 54 5 (.slice (some ⟨g, 0, none⟩) 1 1) 1 (akC ⟨r, A, K, s + (rdS A K L W p).s, d + (rdS A K L W p).d⟩) ∧ wr.ownsRow g8 54 5 (.slice (some ⟨g8, 0, none⟩) 1 1) 1 [.int .u64 0, .int .u64 0, .int .i64 0, .int .i64 0, .int .i64 0] ∧ Ext w wr)
            (fun _ q13 _ _ => N - (intOf q13).toNat)
          case atStart => exact ⟨0, Nat.zero_le _, rfl, rfl, by simp [rdS], HR2.out, HQ.out, hX⟩
          case round =>
            clear HR2 HQ HR c0 hX
            obtain ⟨p, hp, rfl, rfl, rfl, hR, hQ, hX⟩ := hrel
            have yb := HYC.out p
            have yb4 := rdS_lt HA2.out K L W hp
            have yst : rdS A K L W (p + 1) = (if (rdS A K L W p).s < W then (if K.testBit p = true then rdS A K L W p else if L.testBit p = true then ⟨(rdS A K L W p).s + 1, (rdS A K L W p).N, (rdS A K L W p).d⟩ else ⟨(rdS A K L W p).s + 1, (rdS A K L W p).N ||| 2 ^ p, if A.testBit p = true then (rdS A K L W p).d + 1 else (rdS A K L W p).d⟩) else rdS A K L W p) := rfl
            have yend := rdS_stay (A := A) (K := K) (l := L) (w := W) (p := p)
            obtain ⟨Y, hYe⟩ : ∃ Y, Y = rdS A K L W p := ⟨_, rfl⟩
            rw [← hYe] at yb yb4 yst yend hR ⊢
            have HYE := hid hYe
            have HYS := hid yst
            have HYN := hid yend
            obtain ⟨ys, yN, yd⟩ := Y
            simp only at yb yb4 hR ⊢
            obtain ⟨yb1, yb2, yb3⟩ := yb
            have hpN := pow_small hN2
            have b5 : yN < 512 := by omega
            have c0 : wr.cell? ⟨g, 0, none⟩ = some (.int .u64 (A : Int)) := hR.cellAt 0 (by omega)
            have c1 : wr.cell? ⟨g, 1, none⟩ = some (.int .u64 (K : Int)) := hR.cellAt 1 (by omega)
            have c2 : wr.cell? ⟨g, 2, none⟩ = some (.int .i64 (r : Int)) := hR.cellAt 2 (by omega)
            have c3 : wr.cell? ⟨g, 3, none⟩ = some (.int .i64 ((s : Int) + (ys : Int))) := by rw [← Int.natCast_add]; exact hR.cellAt 3 (by omega)
            have c4 : wr.cell? ⟨g, 4, none⟩ = some (.int .i64 ((d : Int) + (yd : Int))) := by rw [← Int.natCast_add]; exact hR.cellAt 4 (by omega)
            have f0 := hR.frozenAt 0
            have f1 := hR.frozenAt 1
            have f2 := hR.frozenAt 2
            have f3 := hR.frozenAt 3
            have f4 := hR.frozenAt 4
            have HR := hid hR
            have HQ := hid hQ
            have hlg : g < wr.heap.size := (hR.lt _ rfl).2
            have H4 := hid yb4
            clear hYe yst yend hR hQ yb4 hpN
            by_cases hgo : p < N ∧ ys < W
            · obtain ⟨hpl, hyl⟩ := hgo
              have tw : decide ((0 : Int) < (W : Int) - (ys : Int)) = true := decide_eq_true (by omega)
              have hyst := HYS.out
              simp only at hyst
              rw [if_pos hyl] at hyst
              have k1 := shr_u64 (K := K) (p := p) (by omega)
              have k2 := shr_i64 (K := L) (p := p) (by omega)
              have k3 := shr_u64 (K := A) (p := p) (by omega)
              have k4 := wrap_pow (p := p) (by omega)
              have k5 := or_u64 (a := yN) (p := p) b5 (by omega)
              cases hKb : K.testBit p with
              | true =>
                rw [hKb, if_pos rfl] at k1 hyst
                have HY := hid hyst
                clear hyst k2 k3 k4 k5 hKb
                go_wp2_with (fail)
                go_roundw
                case rel => exact ⟨p + 1, by omega, by rw [HY.out], by go_num, by rw [HY.out], by rw [HY.out]; exact HR.out, HQ.out, hX⟩
                case measure => simp [intOf]; omega
              | false =>
                rw [hKb, if_neg (by decide)] at k1 hyst
                have st3 := hid (HR.out.stored 3 (.int .i64 ((s : Int) + (ys : Int) + 1)))
                cases hLb2 : L.testBit p with
                | true =>
                  rw [hLb2, if_pos rfl] at k2 hyst
                  have HY := hid hyst
                  clear hyst k3 k4 k5 hLb2 hKb
                  go_wp2_with (fail)
                  go_roundw
                  case rel =>
                    refine ⟨p + 1, by omega, by rw [HY.out], by go_num, by rw [HY.out]; go_num, ?_, (ownsRow_other HQ.out hg88 _ _), hX.setCell hgw _⟩
                    rw [HY.out]
                    have := st3.out.1
                    simp only [akC, List.set] at this ⊢
                    rw [show ((s + (ys + 1) : Nat) : Int) = (s : Int) + (ys : Int) + 1 by omega]
                    exact this
                  case measure => simp [intOf]; omega
                | false =>
                  rw [hLb2, if_neg (by decide)] at k2 hyst
                  have st4 := hid (st3.out.1.stored 4 (.int .i64 ((d : Int) + (yd : Int) + 1)))
                  cases hAb : A.testBit p with
                  | true =>
                    rw [hAb, if_pos rfl] at k3 hyst
                    have HY := hid hyst
                    clear hyst hLb2 hKb hAb
                    go_wp2_with (fail)
                    go_roundw
                    case rel =>
                      refine ⟨p + 1, by omega, by rw [HY.out], by go_num, by rw [HY.out]; go_num, ?_, (ownsRow_other (ownsRow_other HQ.out hg88 _ _) hg88 _ _), (hX.setCell hgw _).setCell hgw _⟩
                      rw [HY.out]
                      have := st4.out.1
                      simp only [akC, List.set] at this ⊢
                      rw [show ((s + (ys + 1) : Nat) : Int) = (s : Int) + (ys : Int) + 1 by omega, show ((d + (yd + 1) : Nat) : Int) = (d : Int) + (yd : Int) + 1 by omega]
                      exact this
                    case measure => simp [intOf]; omega
                  | false =>
                    rw [hAb, if_neg (by decide)] at k3 hyst
                    have HY := hid hyst
                    clear hyst hLb2 hKb hAb
                    go_wp2_with (fail)
                    go_roundw
                    case rel =>
                      refine ⟨p + 1, by omega, by rw [HY.out], by go_num, by rw [HY.out]; go_num, ?_, (ownsRow_other HQ.out hg88 _ _), hX.setCell hgw _⟩
                      rw [HY.out]
                      have := st3.out.1
                      simp only [akC, List.set] at this ⊢
                      rw [show ((s + (ys + 1) : Nat) : Int) = (s : Int) + (ys : Int) + 1 by omega]
                      exact this
                    case measure => simp [intOf]; omega
            · have yN2 : rdS A K L W N = ⟨ys, yN, yd⟩ := by
                by_cases h : p < N
                · have := HYN.out (by simp only; omega) (N - p)
                  rw [show p + (N - p) = N by omega] at this
                  exact this
                · rw [show N = p by omega]; exact HYE.out.symm
              have hnx := HNX.out
              rw [yN2] at hnx
              simp only at hnx
              have k9 := bit9_i64 (l := L) (by omega)
              have st0 := HR.out.stored 0 (.int .u64 (yN : Int))
              have ST2 := hid (st0.1.stored 2 (.int .i64 ((r : Int) + 1)))
              have st1 := st0.1.stored 1 (.int .u64 (yN : Int))
              have ST3 := hid (st1.1.stored 2 (.int .i64 ((r : Int) + 1)))
              clear st0 st1 yN2
              cases h9 : L.testBit 9 with
              | true =>
                rw [h9, if_pos rfl] at k9 hnx
                have HN := hid hnx
                clear hnx h9
                by_cases hpl : p < N
                · have tw : decide ((0 : Int) < (W : Int) - (ys : Int)) = false := decide_eq_false (by omega)
                  have tw2 : decide (ys < W) = false := decide_eq_false (by omega)
                  have tw3 : decide ((ys : Int) < (W : Int)) = false := decide_eq_false (by omega)
                  clear hgo
                  go_wp2_with (fail)
                  go_roundw
                  case rel =>
                    have hNr := ST2.out.1
                    refine ⟨r + 1, by omega, by rw [HN.out], ?_, (ownsRow_other (ownsRow_other HQ.out hg88 _ _) hg88 _ _), ((hX.setCell hgw _).setCell hgw _)⟩
                    rw [HN.out]
                    simp only [akC, List.set, Int.natCast_add] at hNr ⊢
                    exact hNr
                  case measure =>
                    have hNc := ST2.out.1.cellAt 2 (by omega)
                    rw [HCN.out]
                    unfold cellNat
                    rw [hNc]
                    simp [intOf, akC]; omega
                · obtain rfl : p = N := by omega
                  clear hgo
                  go_wp2_with (fail)
                  go_roundw
                  case rel =>
                    have hNr := ST2.out.1
                    refine ⟨r + 1, by omega, by rw [HN.out], ?_, (ownsRow_other (ownsRow_other HQ.out hg88 _ _) hg88 _ _), ((hX.setCell hgw _).setCell hgw _)⟩
                    rw [HN.out]
                    simp only [akC, List.set, Int.natCast_add] at hNr ⊢
                    exact hNr
                  case measure =>
                    have hNc := ST2.out.1.cellAt 2 (by omega)
                    rw [HCN.out]
                    unfold cellNat
                    rw [hNc]
                    simp [intOf, akC]; omega
              | false =>
                rw [h9, if_neg (by decide)] at k9 hnx
                have HN := hid hnx
                clear hnx h9
                by_cases hpl : p < N
                · have tw : decide ((0 : Int) < (W : Int) - (ys : Int)) = false := decide_eq_false (by omega)
                  have tw2 : decide (ys < W) = false := decide_eq_false (by omega)
                  have tw3 : decide ((ys : Int) < (W : Int)) = false := decide_eq_false (by omega)
                  clear hgo
                  go_wp2_with (fail)
                  go_roundw
                  case rel =>
                    have hNr := ST3.out.1
                    refine ⟨r + 1, by omega, by rw [HN.out], ?_, (ownsRow_other (ownsRow_other (ownsRow_other HQ.out hg88 _ _) hg88 _ _) hg88 _ _), (((hX.setCell hgw _).setCell hgw _).setCell hgw _)⟩
                    rw [HN.out]
                    simp only [akC, List.set, Int.natCast_add] at hNr ⊢
                    exact hNr
                  case measure =>
                    have hNc := ST3.out.1.cellAt 2 (by omega)
                    rw [HCN.out]
                    unfold cellNat
                    rw [hNc]
                    simp [intOf, akC]; omega
                · obtain rfl : p = N := by omega
                  clear hgo
                  go_wp2_with (fail)
                  go_roundw
                  case rel =>
                    have hNr := ST3.out.1
                    refine ⟨r + 1, by omega, by rw [HN.out], ?_, (ownsRow_other (ownsRow_other (ownsRow_other HQ.out hg88 _ _) hg88 _ _) hg88 _ _), (((hX.setCell hgw _).setCell hgw _).setCell hgw _)⟩
                    rw [HN.out]
                    simp only [akC, List.set, Int.natCast_add] at hNr ⊢
                    exact hNr
                  case measure =>
                    have hNc := ST3.out.1.cellAt 2 (by omega)
                    rw [HCN.out]
                    unfold cellNat
                    rw [hNc]
                    simp [intOf, akC]; omega
        · rw [if_neg hrn] at hLe
          subst hLe
          clear hL0 hLb
          go_wp2_with (fail)
          clear t1 t2 c1 c2 f0 f1 f2
          have hyc : ∀ p, (rdS A K 0 W p).s ≤ p ∧ (rdS A K 0 W p).d ≤ (rdS A K 0 W p).s ∧ (rdS A K 0 W p).s ≤ W := rdS_bd A K 0 W
          have HYC := hid hyc
          clear hyc
          obtain ⟨wo, rfl⟩ : ∃ wo : World, wo = wr := ⟨_, rfl⟩
          go_loopw [12, 13, 14] (fun q12 q13 q14 wr => ∃ (p : Nat), p ≤ N ∧ q12 = .int .u64 ((rdS A K 0 W p).N : Int) ∧ q13 = .int .i64 (p : Int) ∧ q14 = .int .i64 ((W : Int) - (rdS A K 0 W p).s) ∧ wr.ownsRow g 54 5 (.slice (some ⟨g, 0, none⟩) 1 1) 1 (akC ⟨r, A, K, s + (rdS A K 0 W p).s, d + (rdS A K 0 W p).d⟩) ∧ wr.ownsRow g8 54 5 (.slice (some ⟨g8, 0, none⟩) 1 1) 1 [.int .u64 0, .int .u64 0, .int .i64 0, .int .i64 0, .int .i64 0] ∧ Ext w wr)
            (fun _ q13 _ _ => N - (intOf q13).toNat)
          case atStart => exact ⟨0, Nat.zero_le _, rfl, rfl, by simp [rdS], HR2.out, HQ.out, hX⟩
          case round =>
            clear HR2 HQ HR c0 hX
            obtain ⟨p, hp, rfl, rfl, rfl, hR, hQ, hX⟩ := hrel
            have yb := HYC.out p
            have yb4 := rdS_lt HA2.out K 0 W hp
            have yst : rdS A K 0 W (p + 1) = (if (rdS A K 0 W p).s < W then (if K.testBit p = true then rdS A K 0 W p else if Nat.testBit 0 p = true then ⟨(rdS A K 0 W p).s + 1, (rdS A K 0 W p).N, (rdS A K 0 W p).d⟩ else ⟨(rdS A K 0 W p).s + 1, (rdS A K 0 W p).N ||| 2 ^ p, if A.testBit p = true then (rdS A K 0 W p).d + 1 else (rdS A K 0 W p).d⟩) else rdS A K 0 W p) := rfl
            have yend := rdS_stay (A := A) (K := K) (l := 0) (w := W) (p := p)
            obtain ⟨Y, hYe⟩ : ∃ Y, Y = rdS A K 0 W p := ⟨_, rfl⟩
            rw [← hYe] at yb yb4 yst yend hR ⊢
            have HYE := hid hYe
            have HYS := hid yst
            have HYN := hid yend
            obtain ⟨ys, yN, yd⟩ := Y
            simp only at yb yb4 hR ⊢
            obtain ⟨yb1, yb2, yb3⟩ := yb
            have hpN := pow_small hN2
            have b5 : yN < 512 := by omega
            have c0 : wr.cell? ⟨g, 0, none⟩ = some (.int .u64 (A : Int)) := hR.cellAt 0 (by omega)
            have c1 : wr.cell? ⟨g, 1, none⟩ = some (.int .u64 (K : Int)) := hR.cellAt 1 (by omega)
            have c2 : wr.cell? ⟨g, 2, none⟩ = some (.int .i64 (r : Int)) := hR.cellAt 2 (by omega)
            have c3 : wr.cell? ⟨g, 3, none⟩ = some (.int .i64 ((s : Int) + (ys : Int))) := by rw [← Int.natCast_add]; exact hR.cellAt 3 (by omega)
            have c4 : wr.cell? ⟨g, 4, none⟩ = some (.int .i64 ((d : Int) + (yd : Int))) := by rw [← Int.natCast_add]; exact hR.cellAt 4 (by omega)
            have f0 := hR.frozenAt 0
            have f1 := hR.frozenAt 1
            have f2 := hR.frozenAt 2
            have f3 := hR.frozenAt 3
            have f4 := hR.frozenAt 4
            have HR := hid hR
            have HQ := hid hQ
            have hlg : g < wr.heap.size := (hR.lt _ rfl).2
            have H4 := hid yb4
            clear hYe yst yend hR hQ yb4 hpN
            by_cases hgo : p < N ∧ ys < W
            · obtain ⟨hpl, hyl⟩ := hgo
              have tw : decide ((0 : Int) < (W : Int) - (ys : Int)) = true := decide_eq_true (by omega)
              have hyst := HYS.out
              simp only at hyst
              rw [if_pos hyl] at hyst
              have k1 := shr_u64 (K := K) (p := p) (by omega)
              have k2 : bits .and .i64 0 1 = 0 := by decide +kernel
              have hLb2 : Nat.testBit 0 p = false := Nat.zero_testBit p
              have k3 := shr_u64 (K := A) (p := p) (by omega)
              have k4 := wrap_pow (p := p) (by omega)
              have k5 := or_u64 (a := yN) (p := p) b5 (by omega)
              cases hKb : K.testBit p with
              | true =>
                rw [hKb, if_pos rfl] at k1 hyst
                have HY := hid hyst
                clear hyst k2 k3 k4 k5 hKb
                go_wp2_with (fail)
                go_roundw
                case rel => exact ⟨p + 1, by omega, by rw [HY.out], by go_num, by rw [HY.out], by rw [HY.out]; exact HR.out, HQ.out, hX⟩
                case measure => simp [intOf]; omega
              | false =>
                rw [hKb, if_neg (by decide)] at k1 hyst
                have st3 := hid (HR.out.stored 3 (.int .i64 ((s : Int) + (ys : Int) + 1)))
                rw [hLb2, if_neg (by decide)] at hyst
                have st4 := hid (st3.out.1.stored 4 (.int .i64 ((d : Int) + (yd : Int) + 1)))
                cases hAb : A.testBit p with
                | true =>
                  rw [hAb, if_pos rfl] at k3 hyst
                  have HY := hid hyst
                  clear hyst hLb2 hKb hAb
                  go_wp2_with (fail)
                  go_roundw
                  case rel =>
                    refine ⟨p + 1, by omega, by rw [HY.out], by go_num, by rw [HY.out]; go_num, ?_, (ownsRow_other (ownsRow_other HQ.out hg88 _ _) hg88 _ _), (hX.setCell hgw _).setCell hgw _⟩
                    rw [HY.out]
                    have := st4.out.1
                    simp only [akC, List.set] at this ⊢
                    rw [show ((s + (ys + 1) : Nat) : Int) = (s : Int) + (ys : Int) + 1 by omega, show ((d + (yd + 1) : Nat) : Int) = (d : Int) + (yd : Int) + 1 by omega]
                    exact this
                  case measure => simp [intOf]; omega
                | false =>
                  rw [hAb, if_neg (by decide)] at k3 hyst
                  have HY := hid hyst
                  clear hyst hLb2 hKb hAb
                  go_wp2_with (fail)
                  go_roundw
                  case rel =>
                    refine ⟨p + 1, by omega, by rw [HY.out], by go_num, by rw [HY.out]; go_num, ?_, (ownsRow_other HQ.out hg88 _ _), hX.setCell hgw _⟩
                    rw [HY.out]
                    have := st3.out.1
                    simp only [akC, List.set] at this ⊢
                    rw [show ((s + (ys + 1) : Nat) : Int) = (s : Int) + (ys : Int) + 1 by omega]
                    exact this
                  case measure => simp [intOf]; omega
            · have yN2 : rdS A K 0 W N = ⟨ys, yN, yd⟩ := by
                by_cases h : p < N
                · have := HYN.out (by simp only; omega) (N - p)
                  rw [show p + (N - p) = N by omega] at this
                  exact this
                · rw [show N = p by omega]; exact HYE.out.symm
              have hnx := HNX.out
              rw [yN2] at hnx
              simp only at hnx
              have k9 : bits .and .i64 0 512 = 0 := by decide +kernel
              have h9 : Nat.testBit 0 9 = false := Nat.zero_testBit 9
              have st0 := HR.out.stored 0 (.int .u64 (yN : Int))
              have ST2 := hid (st0.1.stored 2 (.int .i64 ((r : Int) + 1)))
              have st1 := st0.1.stored 1 (.int .u64 (yN : Int))
              have ST3 := hid (st1.1.stored 2 (.int .i64 ((r : Int) + 1)))
              clear st0 st1 yN2
              rw [h9, if_neg (by decide)] at hnx
              have HN := hid hnx
              clear hnx h9
              by_cases hpl : p < N
              · have tw : decide ((0 : Int) < (W : Int) - (ys : Int)) = false := decide_eq_false (by omega)
                have tw2 : decide (ys < W) = false := decide_eq_false (by omega)
                have tw3 : decide ((ys : Int) < (W : Int)) = false := decide_eq_false (by omega)
                clear hgo
                go_wp2_with (fail)
                go_roundw
                case rel =>
                  have hNr := ST3.out.1
                  refine ⟨r + 1, by omega, by rw [HN.out], ?_, (ownsRow_other (ownsRow_other (ownsRow_other HQ.out hg88 _ _) hg88 _ _) hg88 _ _), (((hX.setCell hgw _).setCell hgw _).setCell hgw _)⟩
                  rw [HN.out]
                  simp only [akC, List.set, Int.natCast_add] at hNr ⊢
                  exact hNr
                case measure =>
                  have hNc := ST3.out.1.cellAt 2 (by omega)
                  rw [HCN.out]
                  unfold cellNat
                  rw [hNc]
                  simp [intOf, akC]; omega
              · obtain rfl : p = N := by omega
                clear hgo
                go_wp2_with (fail)
                go_roundw
                case rel =>
                  have hNr := ST3.out.1
                  refine ⟨r + 1, by omega, by rw [HN.out], ?_, (ownsRow_other (ownsRow_other (ownsRow_other HQ.out hg88 _ _) hg88 _ _) hg88 _ _), (((hX.setCell hgw _).setCell hgw _).setCell hgw _)⟩
                  rw [HN.out]
                  simp only [akC, List.set, Int.natCast_add] at hNr ⊢
                  exact hNr
                case measure =>
                  have hNc := ST3.out.1.cellAt 2 (by omega)
                  rw [HCN.out]
                  unfold cellNat
                  rw [hNc]
                  simp [intOf, akC]; omega
      · obtain rfl : r = k := by omega
        have HE := hid HXE.out.symm
        go_wp2_with (fail)
        have e5 := ((((((HQ.out.stored 0 (.int .u64 (A : Int))).1).stored 1 (.int .u64 (K : Int))).1.stored 2 (.int .i64 (r : Int))).1.stored 3 (.int .i64 (s : Int))).1.stored 4 (.int .i64 (d : Int))).1
        refine bodyPost_ret (results_cell_row Try.results41 _ _ g8 54 (akC ⟨r, A, K, s, d⟩).toArray (0, 0) _ rfl (ownsRow_block e5) Try.underlying54 rfl (by kernel_rfl)) rfl ⟨by rw [HE.out], ?_⟩
        exact ((((hX.setCell hg8' _).setCell hg8' _).setCell hg8' _).setCell hg8' _).setCell hg8' _
end Go.Proofs.Ytmmmiccpimplhaa
