/- What a slice of integers, or of structs of integers, that came in reads as. No condition. -/
import Derived.Test.YtjmbhlhkjjinbaaBase
import Derived.ProofKit
import Derived.OpenShut
import Derived.Deep.Slices
import Derived.Deep.Fields
import Derived.Lib.SmallJoins
namespace Go.Proofs.Ytjmbhlhkjjinbaa
open Go.RowKit
set_option linter.unusedSimpArgs false
set_option linter.unusedVariables false
open Go.ChangeShapes Go.WideShapes Go.Deep

/-- v is a slice of n elements of k cells each, all integers of kind kd: the numbers zs. -/
def IntRow (kd : IntKind) (k : Nat) (w : World) (v : Value) (n : Nat) (zs : List Int) : Prop :=
  zs.length = n * k ∧ n ≤ maxLen ∧ (∀ z ∈ zs, (Lit.int kd z).wf = true) ∧ ∃ a c, v = .slice a n c ∧ n ≤ c ∧ c ≤ maxLen ∧
    (n = 0 ∨ ∃ b o, a = some ⟨b, o, none⟩ ∧ b < w.heap.size ∧ ∀ j, j < n * k → w.cell? ⟨b, o + j, none⟩ = some (.int kd (zs.getD j 0)))

theorem IntRow.ext {kd : IntKind} {k : Nat} {w w' : World} {v : Value} {n : Nat} {zs : List Int} (h : IntRow kd k w v n zs) (e : Ext w w') : IntRow kd k w' v n zs := by
  obtain ⟨h1, h2, h3, a, c, h4, h5, h6, h7⟩ := h
  refine ⟨h1, h2, h3, a, c, h4, h5, h6, ?_⟩
  rcases h7 with h7 | ⟨b, o, ha, hb, hc⟩
  · exact .inl h7
  · refine .inr ⟨b, o, ha, Nat.lt_of_lt_of_le hb e.size, fun j hj => ?_⟩
    rw [(Ext.cells e).1 b _ hb]
    exact hc j hj

section
variable {H : Type} {enc : TypeId × Value → H} {P : Program} {w : World} {base : Nat} {spare : Nat → Bool} {held : Bool}

theorem ints_of_int {e : TypeId} {kd : IntKind} (he : P.underlying e = some (.int kd)) (n : Nat) (cs : List Value) (x : DataW H × List MemPlace)
    (h : DataW.trod enc P w base spare held n e cs = some x) : ∃ zs : List Int, cs = zs.map (Value.int kd) ∧ ∀ z ∈ zs, (Lit.int kd z).wf = true := by
  obtain ⟨z, rfl, _, hw⟩ := DataW.trod_int he h
  exact ⟨[z], rfl, by simpa using hw⟩

theorem list_ints {kd : IntKind} : ∀ (cs : List Value), (∀ (j : Nat) (v : Value), cs[j]? = some v → ∃ z : Int, v = Value.int kd z ∧ (Lit.int kd z).wf = true) → ∃ zs : List Int, cs = zs.map (Value.int kd) ∧ ∀ z ∈ zs, (Lit.int kd z).wf = true
  | [], _ => ⟨[], rfl, by simp⟩
  | c :: cs, h => by
    obtain ⟨z, rfl, hz⟩ := h 0 c rfl
    obtain ⟨zs, rfl, hzs⟩ := list_ints cs (fun j v hj => h (j + 1) v (by simpa using hj))
    exact ⟨z :: zs, rfl, by simpa using ⟨hz, hzs⟩⟩

theorem ints_of_struct {e : TypeId} {fs : Array Field} {kd : IntKind} (he : P.underlying e = some (.struct fs)) (hone : oneCellFields P fs = true) (hC : P.cellsOf e = fs.size)
    (hint : ∀ (j : Nat) (f : Field), fs[j]? = some f → P.underlying f.type = some (.int kd)) (n : Nat) (cs : List Value) (x : DataW H × List MemPlace)
    (h : DataW.trod enc P w base spare held n e cs = some x) : ∃ zs : List Int, cs = zs.map (Value.int kd) ∧ ∀ z ∈ zs, (Lit.int kd z).wf = true := by
  obtain ⟨xs, m, _, _, hl, hxl, hf⟩ := DataW.trod_struct he h
  refine list_ints cs fun j v hj => ?_
  have hjl : j < fs.size := by
    have := (List.getElem?_eq_some_iff.1 hj).1
    omega
  have hfj : fs[j]? = some fs[j] := by simp [hjl]
  obtain ⟨ho, hk⟩ := hone_of hone j _ hfj
  have h1 := hf j _ hfj
  rw [ho, hk] at h1
  have hv : (cs.drop j).take 1 = [v] := by
    rw [List.drop_eq_getElem_cons (List.getElem?_eq_some_iff.1 hj).1]
    simp [(List.getElem?_eq_some_iff.1 hj).2]
  rw [hv] at h1
  have hx : xs[j]? = some (xs[j]'(by omega)) := List.getElem?_eq_getElem (by omega)
  rw [hx] at h1
  obtain ⟨z, hz, _, hw⟩ := DataW.trod_int (hint j _ hfj) h1
  simp at hz
  exact ⟨z, hz, hw⟩

theorem intRow_open {t e : TypeId} {kd : IntKind} {k fuel : Nat} {cs : List Value} {x : DataW H × List MemPlace} (hk : 0 < k) (ht : P.underlying t = some (.slice e)) (hC : P.cellsOf e = k)
    (hel : ∀ n (cs : List Value) (x : DataW H × List MemPlace), DataW.trod enc P w base spare held n e cs = some x → ∃ zs : List Int, cs = zs.map (Value.int kd) ∧ ∀ z ∈ zs, (Lit.int kd z).wf = true)
    (h : DataW.trod enc P w base spare held fuel t cs = some x) : ∃ v n zs, cs = [v] ∧ IntRow kd k w v n zs := by
  rcases DataW.trod_slice ht h with ⟨rfl, _⟩ | ⟨a, len, cap, elems, rest, m, _, rfl, _, _, hl, hm, hlen, hi, _, _⟩
  · exact ⟨_, 0, [], rfl, by simp, Nat.zero_le _, by simp, none, 0, rfl, Nat.le_refl _, Nat.zero_le _, .inl rfl⟩
  · rw [hC] at hi
    have each : ∀ i, i < len → ∃ zs : List Int, zs.length = k ∧ (∀ z ∈ zs, (Lit.int kd z).wf = true) ∧ ∀ j, j < k → w.cell? (a.add (i * k + j)) = some (.int kd (zs.getD j 0)) := by
      intro i hil
      have h1 := hi i hil
      rw [List.getElem?_eq_getElem (by omega)] at h1
      obtain ⟨cs', hc, ht'⟩ := Option.bind_eq_some_iff.1 h1
      obtain ⟨_, hcl, hat⟩ := World.cells?_some hc
      obtain ⟨zs, rfl, hz⟩ := hel _ _ _ ht'
      refine ⟨zs, by simpa using hcl, hz, fun j hj => ?_⟩
      have hzl : zs.length = k := by simpa using hcl
      have := hat j hj
      rw [← Go.Deep.add_add, this]
      simp [List.getD_eq_getElem?_getD, List.getElem?_eq_getElem (show j < zs.length by omega)]
    have all : ∀ N, N ≤ len → ∃ zs : List Int, zs.length = N * k ∧ (∀ z ∈ zs, (Lit.int kd z).wf = true) ∧ ∀ j, j < N * k → w.cell? (a.add j) = some (.int kd (zs.getD j 0)) := by
      intro N
      induction N with
      | zero => exact fun _ => ⟨[], by simp, by simp, by simp⟩
      | succ N ih =>
        intro hN
        obtain ⟨zs, hz1, hz2, hz3⟩ := ih (by omega)
        obtain ⟨ys, hy1, hy2, hy3⟩ := each N (by omega)
        refine ⟨zs ++ ys, by simp [hz1, hy1, Nat.succ_mul], fun z hz => ?_, fun j hj => ?_⟩
        · rcases List.mem_append.1 hz with hz | hz
          · exact hz2 z hz
          · exact hy2 z hz
        · by_cases hjk : j < N * k
          · rw [hz3 j hjk]
            simp [List.getD_eq_getElem?_getD, List.getElem?_append_left (show j < zs.length by omega)]
          · have e1 : j = N * k + (j - N * k) := by omega
            have := hy3 (j - N * k) (by rw [Nat.succ_mul] at hj; omega)
            rw [← e1] at this
            rw [this]
            simp [List.getD_eq_getElem?_getD, List.getElem?_append_right (show zs.length ≤ j by omega), hz1]
    obtain ⟨zs, hz1, hz2, hz3⟩ := all len (Nat.le_refl _)
    refine ⟨_, len, zs, rfl, hz1, Nat.le_trans hl hm, hz2, some a, cap, rfl, hl, hm, ?_⟩
    by_cases h0 : len = 0
    · exact .inl h0
    · right
      have hpos : 0 < zs.length := by rw [hz1]; exact Nat.mul_pos (by omega) hk
      obtain ⟨b, off, rfl, hc⟩ := ints_at (zs := zs) (k := kd) (fun i hi => hz3 i (by omega)) hpos
      refine ⟨b, off, rfl, ?_, fun j hj => ?_⟩
      · have := World.block_lt_of_cell? w _ (hz3 0 (by omega))
        simpa [Addr.add] using this
      · exact hc j (by omega)
end
end Go.Proofs.Ytjmbhlhkjjinbaa
