/- A region that draws its order, by types, up to a tail that comes last in a fixed order (an append and a store). No condition. -/
import Derived.Test.YtjmbhlhkjjinbaaReg
import Derived.StillTail
namespace Go.Proofs.Ytjmbhlhkjjinbaa
open Go.RowKit
set_option linter.unusedSimpArgs false
set_option linter.unusedVariables false

section
variable {P : Program} {Q : Exit → Act → World → Prop}

def regChkN (ops : Array Oper) (sp : List (List (Nat × Ty) × Ty)) (Γ : List (Nat × Ty)) (N n : Nat) : Bool := (List.range n).all (opChk ops sp Γ N)
def tailChk (ops : Array Oper) (n : Nat) : Bool := decide (n < ops.size) && (Region.sinkB .any ops n && (Region.chainB .any ops n && Region.seqB .any ops (ops.size - n) n ((List.replicate n true ++ List.replicate (ops.size - n) false).toArray)))

theorem wp_region_typed_tail {id : Nat} {a : Act} {w : World} {l : List Oper} (n : Nat) (hm : P.follows .mixedOrders = true)
    (I : Nat → World → Prop) (V : World → Ty → Value → Prop) (R : World → World → Prop) (C L : Nat)
    (hRt : ∀ a b c, R a b → R b c → R a c) (hV : ∀ w w' T v, R w w' → V w T v → V w' T v)
    (hd : ∀ q w, I q w → I q w.drew) (hRd : ∀ w, R w w.drew)
    (sp : List (List (Nat × Ty) × Ty)) (Γ : List (Nat × Ty)) (hc : regChkN l.toArray sp Γ a.tmps.size n = true) (htl : tailChk l.toArray n = true)
    (hops : AllOk P I V R C L (l.take n) sp)
    (q : Nat) (hq : q + n * C ≤ L) (hI : I q w) (hΓ : ∀ p ∈ Γ, V w p.2 (a.eval (.tmp p.1)))
    (ds : List Nat) (hds : ds = (l.take n).filterMap (·.dst))
    (hdone : ∀ (u : Nat → Value) w' q', q' ≤ q + n * C → I q' w' → R w w' → (∀ (d : Nat) (T : Ty), lookT d (l.take n) sp = some T → V w' T (u d)) → wpList P l.toArray Q (l.drop n) { a with tmps := putsAt ds u a.tmps } w') :
    (Code.region id l.toArray true).wp P Q a w := by
  generalize hops' : l.toArray = ops at *
  have hls0 : ∀ i : Nat, l[i]? = ops[i]? := fun i => by rw [← hops']; simp
  simp only [tailChk, Bool.and_eq_true, decide_eq_true_eq] at htl
  obtain ⟨hn, hsink, hchain, hseq⟩ := htl
  have hln : ops.size = l.length := by rw [← hops']; simp
  refine wp_region_any hm ?_
  have hall : ∀ (i : Nat) (o : Oper), i < n → ops[i]? = some o → ∃ s : List (Nat × Ty) × Ty, sp[i]? = some s ∧ o.guard = none ∧ (∀ p ∈ s.1, preOk ops sp Γ o p = true) ∧ (∀ d, o.dst = some d → d < a.tmps.size ∧ ∀ (j : Nat) (o' : Oper), ops[j]? = some o' → o'.dst = some d → j = i) := by
    intro i o hin hi
    have h1 := List.all_eq_true.1 hc i (by simpa using hin)
    unfold opChk at h1
    rw [hi] at h1
    cases hs : sp[i]? with
    | none => simp [hs] at h1
    | some s =>
      simp only [hs, Bool.and_eq_true, List.all_eq_true] at h1
      refine ⟨s, rfl, by simpa using h1.1.1.1, h1.1.2, fun d hd => ?_⟩
      have h2 := h1.2
      rw [hd] at h2
      simp only [Bool.and_eq_true, decide_eq_true_eq, List.all_eq_true] at h2
      refine ⟨h2.1, fun j o' hj hd' => ?_⟩
      have hjl : j < ops.size := by
        rcases Nat.lt_or_ge j ops.size with h | h
        · exact h
        · rw [Array.getElem?_eq_none h] at hj; cases hj
      have h3 := h2.2 j (by simpa using hjl)
      rw [hj] at h3
      simpa [hd'] using h3
  have hlow : ∀ (i : Nat) (o : Oper), i < n → ops[i]? = some o → ∀ e ∈ o.after, Region.binds .any e = true → e.on < i := by
    intro i o hin hi e he hb
    have h1 := List.all_eq_true.1 hc i (by simpa using hin)
    unfold opChk at h1
    rw [hi] at h1
    cases hs : sp[i]? with
    | none => simp [hs] at h1
    | some s =>
      simp only [hs, Bool.and_eq_true] at h1
      have h2 := h1.1.1.2
      rw [Array.all_eq_true_iff_forall_mem] at h2
      have h3 := h2 e he
      simpa [hb] using h3
  have hspget : ∀ (i : Nat) (o : Oper) (s : List (Nat × Ty) × Ty), i < n → ops[i]? = some o → sp[i]? = some s → OpOk P I V R C L o s.1 s.2 := by
    intro i o s hin h1 h2
    refine allOk_get hops i o s ?_ h2
    rw [List.getElem?_take_of_lt hin, hls0]
    exact h1
  -- an unlisted head: some head is ready
  have some_ready : ∀ (listed : Array Bool), listed.size = ops.size → Region.ready .any ops listed = [] → ∀ i, i < n → listed.getD i false = true := by
    intro listed hls hr i
    induction i using Nat.strongRecOn with
    | ind i ih =>
      intro hi
      by_cases hL : listed.getD i false = true
      · exact hL
      · exfalso
        have hmem : i ∈ Region.ready .any ops listed := by
          rw [mem_ready]
          refine ⟨?_, ops[i], Array.getElem?_eq_getElem (by omega), fun e he hb => ?_⟩
          · simp [show i < listed.size by omega] at hL ⊢
            exact hL
          · have hlt := hlow i ops[i] hi (Array.getElem?_eq_getElem (by omega)) e he hb
            exact ih e.on hlt (by omega)
        rw [hr] at hmem
        cases hmem
  have main : ∀ (f : Nat) (listed : Array Bool) (a' : Act) (w' : World) (q' : Nat), q' + f * C ≤ q + n * C → I q' w' → R w w' → a'.defers = a.defers → a'.tmps.size = a.tmps.size →
      (∀ (t : Nat), t ∉ ds → a'.tmps[t]? = a.tmps[t]?) →
      (∀ (i : Nat) (o : Oper) (s : List (Nat × Ty) × Ty) (d : Nat), i < n → ops[i]? = some o → sp[i]? = some s → o.dst = some d → listed.getD i false = true → V w' s.2 (a'.tmps.getD d undef)) →
      HeadInv .any ops n listed → (listed.toList.take n).count false = f → wpAny P .any ops Q (f + (ops.size - n)) listed a' w' := by
    intro f
    induction f with
    | zero =>
      intro listed a' w' q' hq' hI' hR hdf hts hout hin inv hcnt
      have hhead : ∀ i, i < n → listed.getD i false = true := by
        intro i hi
        have hil : i < listed.size := by rw [inv.size]; omega
        cases hb : listed.getD i false with
        | true => rfl
        | false =>
          exfalso
          have : false ∈ listed.toList.take n := by
            rw [List.mem_take_iff_getElem]
            refine ⟨i, by simp; omega, ?_⟩
            simpa [hil] using hb
          have := List.count_pos_iff.2 this
          omega
      have hlist0 : listed.toList = List.replicate n true ++ List.replicate (ops.size - n) false := by
        have hlz := inv.size
        apply List.ext_getElem?
        intro j
        by_cases hj : j < n
        · have h1 := hhead j hj
          have hjl : j < listed.size := by omega
          rw [List.getElem?_append_left (by simpa using hj), List.getElem?_replicate, if_pos hj]
          simp [hjl] at h1 ⊢
          exact h1
        · by_cases hj2 : j < ops.size
          · have h1 := inv.tail j (by omega) hj2
            have hjl : j < listed.size := by omega
            rw [List.getElem?_append_right (by simp; omega), List.getElem?_replicate, if_pos (by simp; omega)]
            simp [hjl] at h1 ⊢
            exact h1
          · rw [List.getElem?_eq_none (by simp; omega), List.getElem?_eq_none (by simp; omega)]
      have hlist : listed = (List.replicate n true ++ List.replicate (ops.size - n) false).toArray := by rw [← hlist0]
      rw [Nat.zero_add]
      have hdl : (l.drop n).length = ops.size - n := by simp [hln]
      rw [← hdl]
      refine wpAny_of_seq (l.drop n) n listed a' w' (fun j => by rw [List.getElem?_drop, hls0]) (by rw [hdl, hlist]; exact hseq) ?_
      have key : a' = { a with tmps := putsAt ds (fun t => a'.tmps.getD t undef) a.tmps } := by
        have : a'.tmps = putsAt ds (fun t => a'.tmps.getD t undef) a.tmps := by
          apply Array.ext_getElem?
          intro j
          by_cases hj : j < a.tmps.size
          · rw [putsAt_get _ j ds _ hj]
            split
            · simp [show j < a'.tmps.size by omega]
            · rename_i hn2
              exact hout j hn2
          · rw [Array.getElem?_eq_none (by omega), Array.getElem?_eq_none (by rw [putsAt_size]; omega)]
        obtain ⟨t', d'⟩ := a'
        simp only at this hdf
        rw [hdf]
        simp only [Act.mk.injEq, and_true]
        exact this
      rw [key]
      refine hdone _ w' q' (by omega) hI' hR fun d T hT => ?_
      obtain ⟨i, o, s, h5, h6, h7, rfl⟩ := lookT_get hT
      have hin2 : i < n := by
        have := (List.getElem?_eq_some_iff.1 h5).1
        simp at this
        omega
      rw [List.getElem?_take_of_lt hin2, hls0] at h5
      exact hin i o s d hin2 h5 h6 h7 (hhead i hin2)
    | succ f ih =>
      intro listed a' w' q' hq' hI' hR hdf hts hout hin inv hcnt
      rw [Nat.succ_mul] at hq'
      rw [show f + 1 + (ops.size - n) = (f + (ops.size - n)) + 1 by omega]
      have hun : ∃ i, i < n ∧ listed.getD i true = false := by
        have : false ∈ listed.toList.take n := List.count_pos_iff.1 (by omega)
        rw [List.mem_take_iff_getElem] at this
        obtain ⟨i, hi, he⟩ := this
        refine ⟨i, by simp at hi; omega, ?_⟩
        have hil : i < listed.size := by simp at hi; omega
        simpa [hil] using he
      refine ⟨fun hr => ?_, fun i hi => ?_⟩
      · exfalso
        obtain ⟨i, hin2, hi0⟩ := hun
        have := some_ready listed inv.size hr i hin2
        rw [getD_both hi0] at this
        cases this
      obtain ⟨i0, hi0n, hi00⟩ := hun
      have hin2 : i < n := by
        rcases Nat.lt_or_ge i n with h | h
        · exact h
        · exact absurd hi (tail_waits hsink hchain hn inv _ i0 rfl hi0n hi00 i h)
      obtain ⟨h0, o, ho, haft⟩ := mem_ready.1 hi
      obtain ⟨s, hs, hg, hpre, hdst⟩ := hall i o hin2 ho
      have hil : i < listed.size := by rw [inv.size]; omega
      unfold wpOp
      rw [ho]
      simp only [Region.wanted, hg, if_true]
      refine .inl (hspget i o s hin2 ho hs a' w' q' hI' (by omega) (fun p hp => ?_) _ Q (fun v w2 q2 hq2 hI2 hV2 hR2 => ?_))
      · have h1 := hpre p hp
        unfold preOk at h1
        rw [Bool.or_eq_true] at h1
        rcases h1 with h1 | h1
        · rw [Bool.and_eq_true] at h1
          have h2 := hΓ p (by simpa using h1.1)
          have e : a'.eval (.tmp p.1) = a.eval (.tmp p.1) := by
            show a'.tmps.getD p.1 undef = a.tmps.getD p.1 undef
            have := hout p.1 (fun hmem => by
              rw [hds, List.mem_filterMap] at hmem
              obtain ⟨o', ho', hd'⟩ := hmem
              have hm2 : o' ∈ ops := by rw [← hops']; simpa using List.mem_of_mem_take ho'
              have := Array.all_eq_true_iff_forall_mem.1 h1.2 o' hm2
              simp [hd'] at this)
            simp only [Array.getD_eq_getD_getElem?, this]
          rw [e]
          exact hV _ _ _ _ hR h2
        · rw [Array.any_eq_true] at h1
          obtain ⟨k, hk, h1⟩ := h1
          rw [Bool.and_eq_true] at h1
          obtain ⟨hb, h1⟩ := h1
          have hls' := haft o.after[k] (Array.getElem_mem hk) hb
          have hlow' := hlow i o hin2 ho o.after[k] (Array.getElem_mem hk) hb
          cases ho' : ops[o.after[k].on]? with
          | none => simp [ho'] at h1
          | some o' =>
            cases hs' : sp[o.after[k].on]? with
            | none => simp [ho', hs'] at h1
            | some s' =>
              simp only [ho', hs', Bool.and_eq_true, decide_eq_true_eq, beq_iff_eq] at h1
              have := hin _ o' s' p.1 (by omega) ho' hs' h1.1 hls'
              rw [h1.2] at this
              exact this
      · have hds2 : ∀ d, o.dst = some d → d ∈ ds := fun d hd => by
          rw [hds, List.mem_filterMap]
          refine ⟨o, ?_, hd⟩
          rw [List.mem_take_iff_getElem]
          have h9 := hls0 i
          rw [ho] at h9
          obtain ⟨hlt, he⟩ := List.getElem?_eq_some_iff.1 h9
          exact ⟨i, by omega, he⟩
        refine ih _ _ w2 q2 (by omega) hI2 (hRt _ _ _ hR hR2) ?_ ?_ ?_ ?_ (inv.set hi hin2) ?_
        · cases hd : o.dst <;> simpa [Act.put] using hdf
        · cases hd : o.dst <;> simpa [Act.put] using hts
        · intro t ht
          cases hd : o.dst with
          | none => simpa [Act.put] using hout t ht
          | some d =>
            have : d ≠ t := fun e => ht (by rw [← e]; exact hds2 d hd)
            simp only [Act.put]
            rw [Array.getElem?_setIfInBounds_ne this]
            exact hout t ht
        · intro j o' s' d hjn hj hs' hd' hlj
          by_cases hji : j = i
          · subst hji
            rw [ho] at hj
            cases hj
            rw [hs] at hs'
            cases hs'
            have hdl := (hdst d hd').1
            rw [hd']
            simp only [Act.put]
            have hdl' : (d : Nat) < a'.tmps.size := hts ▸ hdl
            simpa [Array.getD_eq_getD_getElem?, hdl'] using hV2
          · have hlj' : listed.getD j false = true := by rw [getD_set_ne false (Ne.symm hji)] at hlj; exact hlj
            have h3 := hV _ _ _ _ hR2 (hin j o' s' d hjn hj hs' hd' hlj')
            cases hd : o.dst with
            | none => simpa [Act.put] using h3
            | some d2 =>
              have hne : d2 ≠ d := fun e => hji ((hdst d2 hd).2 j o' hj (by rw [hd', e]))
              simp only [Act.put]
              rw [Array.getD_eq_getD_getElem?, Array.getElem?_setIfInBounds_ne hne, ← Array.getD_eq_getD_getElem?]
              exact h3
        · rw [Array.toList_setIfInBounds, List.take_set, List.count_set (by simp; omega)]
          have : (listed.toList.take n)[i]'(by simp; omega) = false := by
            simp [hil] at h0
            simpa using h0
          rw [this]
          simp
          omega
  have h := main n (Array.replicate ops.size false) a w.drew q (Nat.le_refl _) (hd _ _ hI) (hRd _) rfl rfl (fun _ _ => rfl) (fun i o s d _ _ _ _ hl => by rw [getD_replicate_false] at hl; cases hl)
    ⟨by simp, fun j oj _ hl => (by rw [getD_replicate_false] at hl; cases hl), fun t _ ht => getD_in (by simpa using ht) (getD_replicate_false _ _)⟩ (by simp; omega)
  rw [show n + (ops.size - n) = ops.size by omega] at h
  exact h
end
end Go.Proofs.Ytjmbhlhkjjinbaa
