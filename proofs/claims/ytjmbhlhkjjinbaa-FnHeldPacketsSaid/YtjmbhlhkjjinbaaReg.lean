/- A region that draws its order, by types: whatever order is drawn, every operation finds its operands of their types. No condition. -/
import Derived.Test.YtjmbhlhkjjinbaaCurB
namespace Go.Proofs.Ytjmbhlhkjjinbaa
open Go.RowKit
set_option linter.unusedSimpArgs false
set_option linter.unusedVariables false

inductive Ty where
  | any | int | bool | cur | list | rows (k : Nat) | agg (k : Nat) | box (i o : Nat) | usr (k : Nat)
  deriving DecidableEq

section
variable {P : Program} {ops : Array Oper} {Q : Exit → Act → World → Prop}

/-- operation o finds operands of the types 'pre' and leaves a value of type T -/
def OpOk (P : Program) (I : Nat → World → Prop) (V : World → Ty → Value → Prop) (R : World → World → Prop) (C L : Nat) (o : Oper) (pre : List (Nat × Ty)) (T : Ty) : Prop :=
  ∀ (a : Act) (w : World) (q : Nat), I q w → q ≤ L → (∀ p ∈ pre, V w p.2 (a.eval (.tmp p.1))) → ∀ (K : Act → World → Prop) (Q : Exit → Act → World → Prop),
    (∀ v w' q', q' ≤ q + C → I q' w' → V w' T v → R w w' → K (a.put o.dst v) w') → o.wp P a w K Q

theorem OpOk.weaken {P : Program} {I : Nat → World → Prop} {V : World → Ty → Value → Prop} {R : World → World → Prop} {C L C' L' : Nat} {o : Oper} {pre : List (Nat × Ty)} {T : Ty} (h : OpOk P I V R C L o pre T) (hC : C ≤ C') (hL : L' ≤ L) : OpOk P I V R C' L' o pre T :=
  fun a w q hI hq hp K Q hK => h a w q hI (Nat.le_trans hq hL) hp K Q fun v w' q' hq' => hK v w' q' (by omega)
def preOk (ops : Array Oper) (sp : List (List (Nat × Ty) × Ty)) (Γ : List (Nat × Ty)) (o : Oper) (p : Nat × Ty) : Bool :=
  (Γ.contains p && ops.all (fun o' => o'.dst != some p.1)) ||
  o.after.any (fun e => Region.binds .any e && (match ops[e.on]?, sp[e.on]? with | some o', some s' => o'.dst == some p.1 && decide (s'.2 = p.2) | _, _ => false))
def opChk (ops : Array Oper) (sp : List (List (Nat × Ty) × Ty)) (Γ : List (Nat × Ty)) (N : Nat) (i : Nat) : Bool :=
  match ops[i]?, sp[i]? with
  | some o, some s => o.guard.isNone && o.after.all (fun e => !Region.binds .any e || decide (e.on < i)) && s.1.all (preOk ops sp Γ o) && (match o.dst with | some d => decide (d < N) && (List.range ops.size).all (fun j => j == i || (match ops[j]? with | some o' => o'.dst != some d | none => true)) | none => true)
  | _, _ => false
def regChk (ops : Array Oper) (sp : List (List (Nat × Ty) × Ty)) (Γ : List (Nat × Ty)) (N : Nat) : Bool := (List.range ops.size).all (opChk ops sp Γ N)

def putsAt (ds : List Nat) (u : Nat → Value) (t : Array Value) : Array Value := ds.foldl (fun t d => t.setIfInBounds d (u d)) t
theorem putsAt_size (u : Nat → Value) : ∀ (ds : List Nat) (t : Array Value), (putsAt ds u t).size = t.size
  | [], _ => rfl
  | d :: ds, t => by
    show (putsAt ds u (t.setIfInBounds d (u d))).size = _
    rw [putsAt_size u ds]
    simp
theorem putsAt_get (u : Nat → Value) (j : Nat) : ∀ (ds : List Nat) (t : Array Value), j < t.size → (putsAt ds u t)[j]? = if j ∈ ds then some (u j) else t[j]?
  | [], t, _ => by simp [putsAt]
  | d :: ds, t, h => by
    show (putsAt ds u (t.setIfInBounds d (u d)))[j]? = _
    rw [putsAt_get u j ds _ (by simpa using h)]
    by_cases hj : j ∈ ds
    · simp [hj]
    · by_cases e : d = j
      · subst e
        simp [hj, h]
      · simp [hj, Array.getElem?_setIfInBounds_ne e, Ne.symm e]

theorem wp_region_typed {id : Nat} {a : Act} {w : World} (hm : P.follows .mixedOrders = true)
    (I : Nat → World → Prop) (V : World → Ty → Value → Prop) (R : World → World → Prop) (C L : Nat)
    (hRr : ∀ w, R w w) (hRt : ∀ a b c, R a b → R b c → R a c) (hV : ∀ w w' T v, R w w' → V w T v → V w' T v)
    (hd : ∀ q w, I q w → I q w.drew) (hRd : ∀ w, R w w.drew)
    (sp : List (List (Nat × Ty) × Ty)) (Γ : List (Nat × Ty)) (hc : regChk ops sp Γ a.tmps.size = true)
    (hops : ∀ (i : Nat) (o : Oper) (s : List (Nat × Ty) × Ty), ops[i]? = some o → sp[i]? = some s → OpOk P I V R C L o s.1 s.2)
    (q : Nat) (hq : q + ops.size * C ≤ L) (hI : I q w) (hΓ : ∀ p ∈ Γ, V w p.2 (a.eval (.tmp p.1)))
    (ds : List Nat) (hds : ds = ops.toList.filterMap (·.dst))
    (hdone : ∀ (u : Nat → Value) w' q', q' ≤ q + ops.size * C → I q' w' → R w w' → (∀ (i : Nat) (o : Oper) (s : List (Nat × Ty) × Ty) (d : Nat), ops[i]? = some o → sp[i]? = some s → o.dst = some d → V w' s.2 (u d)) → Q .normal { a with tmps := putsAt ds u a.tmps } w') :
    (Code.region id ops true).wp P Q a w := by
  refine wp_region_any hm ?_
  have hall : ∀ (i : Nat) (o : Oper), ops[i]? = some o → ∃ s : List (Nat × Ty) × Ty, sp[i]? = some s ∧ o.guard = none ∧ (∀ p ∈ s.1, preOk ops sp Γ o p = true) ∧ (∀ d, o.dst = some d → d < a.tmps.size ∧ ∀ (j : Nat) (o' : Oper), ops[j]? = some o' → o'.dst = some d → j = i) := by
    intro i o hi
    have hil : i < ops.size := by
      rcases Nat.lt_or_ge i ops.size with h | h
      · exact h
      · rw [Array.getElem?_eq_none h] at hi; cases hi
    have h1 := List.all_eq_true.1 hc i (by simpa using hil)
    unfold opChk at h1
    rw [hi] at h1
    cases hs : sp[i]? with
    | none => simp [hs] at h1
    | some s =>
      simp only [hs, Bool.and_eq_true, List.all_eq_true] at h1
      refine ⟨s, rfl, by simpa using h1.1.1.1, h1.1.2, fun d hd => ?_⟩
      have h2 := h1.2
      rw [hd] at h2
      simp only [Bool.and_eq_true, decide_eq_true_eq, List.all_eq_true] at h2
      refine ⟨h2.1, fun j o' hj hd' => ?_⟩
      have hjl : j < ops.size := by
        rcases Nat.lt_or_ge j ops.size with h | h
        · exact h
        · rw [Array.getElem?_eq_none h] at hj; cases hj
      have h3 := h2.2 j (by simpa using hjl)
      rw [hj] at h3
      simpa [hd'] using h3
  have hlow : ∀ (i : Nat) (o : Oper), ops[i]? = some o → ∀ e ∈ o.after, Region.binds .any e = true → e.on < i := by
    intro i o hi e he hb
    have hil : i < ops.size := by
      rcases Nat.lt_or_ge i ops.size with h | h
      · exact h
      · rw [Array.getElem?_eq_none h] at hi; cases hi
    have h1 := List.all_eq_true.1 hc i (by simpa using hil)
    unfold opChk at h1
    rw [hi] at h1
    cases hs : sp[i]? with
    | none => simp [hs] at h1
    | some s =>
      simp only [hs, Bool.and_eq_true] at h1
      have h2 := h1.1.1.2
      rw [Array.all_eq_true_iff_forall_mem] at h2
      have h3 := h2 e he
      simpa [hb] using h3
  have done : ∀ (listed : Array Bool) (a' : Act) (w' : World) (q' : Nat), q' ≤ q + ops.size * C → I q' w' → R w w' → a'.defers = a.defers → a'.tmps.size = a.tmps.size →
      (∀ (t : Nat), (∀ (j : Nat) (o : Oper), ops[j]? = some o → o.dst ≠ some t) → a'.tmps[t]? = a.tmps[t]?) →
      (∀ (i : Nat) (o : Oper) (s : List (Nat × Ty) × Ty) (d : Nat), ops[i]? = some o → sp[i]? = some s → o.dst = some d → listed.getD i false = true → V w' s.2 (a'.tmps.getD d undef)) →
      listed.size = ops.size → Region.ready .any ops listed = [] → Q .normal a' w' := by
    intro listed a' w' q' hq' hI' hR hdf hts hout hin hls hr
    have hl : ∀ i, i < ops.size → listed.getD i false = true := by
      intro i
      induction i using Nat.strongRecOn with
      | ind i ih =>
        intro hi
        by_cases hL : listed.getD i false = true
        · exact hL
        · exfalso
          have hmem : i ∈ Region.ready .any ops listed := by
            rw [mem_ready]
            refine ⟨?_, ops[i], Array.getElem?_eq_getElem hi, fun e he hb => ?_⟩
            · simp [show i < listed.size by omega] at hL ⊢
              exact hL
            · have hlt := hlow i ops[i] (Array.getElem?_eq_getElem hi) e he hb
              exact ih e.on hlt (by omega)
          rw [hr] at hmem
          cases hmem
    have key : a' = { a with tmps := putsAt ds (fun t => a'.tmps.getD t undef) a.tmps } := by
      have : a'.tmps = putsAt ds (fun t => a'.tmps.getD t undef) a.tmps := by
        apply Array.ext_getElem?
        intro j
        by_cases hj : j < a.tmps.size
        · rw [putsAt_get _ j ds _ hj]
          split
          · simp [show j < a'.tmps.size by omega]
          · rename_i hn
            refine hout j fun k o hk hdst => hn ?_
            rw [hds, List.mem_filterMap]
            exact ⟨o, Array.mem_toList_iff.2 (Array.mem_of_getElem? hk), hdst⟩
        · rw [Array.getElem?_eq_none (by omega), Array.getElem?_eq_none (by rw [putsAt_size]; omega)]
      obtain ⟨t', d'⟩ := a'
      simp only at this hdf
      rw [hdf]
      simp only [Act.mk.injEq, and_true]
      exact this
    rw [key]
    refine hdone _ w' q' hq' hI' hR fun i o s d hi hs hd => hin i o s d hi hs hd (hl i ?_)
    exact (Array.getElem?_eq_some_iff.1 hi).1
  have main : ∀ (fuel : Nat) (listed : Array Bool) (a' : Act) (w' : World) (q' : Nat), q' + fuel * C ≤ q + ops.size * C → I q' w' → R w w' → a'.defers = a.defers → a'.tmps.size = a.tmps.size →
      (∀ (t : Nat), (∀ (j : Nat) (o : Oper), ops[j]? = some o → o.dst ≠ some t) → a'.tmps[t]? = a.tmps[t]?) →
      (∀ (i : Nat) (o : Oper) (s : List (Nat × Ty) × Ty) (d : Nat), ops[i]? = some o → sp[i]? = some s → o.dst = some d → listed.getD i false = true → V w' s.2 (a'.tmps.getD d undef)) →
      listed.size = ops.size → listed.toList.count false ≤ fuel → wpAny P .any ops Q fuel listed a' w' := by
    intro fuel
    induction fuel with
    | zero =>
      intro listed a' w' q' hq' hI' hR hdf hts hout hin hls hcnt
      have hr : Region.ready .any ops listed = [] := by
        rw [List.eq_nil_iff_forall_not_mem]
        intro i hi
        have h0 := (mem_ready.1 hi).1
        have : false ∈ listed.toList := by
          rcases Nat.lt_or_ge i listed.size with h | h
          · rw [Array.mem_toList_iff]
            simp [h] at h0
            exact h0 ▸ Array.getElem_mem h
          · simp [Array.getElem?_eq_none h] at h0
        have := List.count_pos_iff.2 this
        omega
      exact ⟨hr, done listed a' w' q' (by omega) hI' hR hdf hts hout hin hls hr⟩
    | succ fuel ih =>
      intro listed a' w' q' hq' hI' hR hdf hts hout hin hls hcnt
      rw [Nat.succ_mul] at hq'
      refine ⟨fun hr => done listed a' w' q' (by omega) hI' hR hdf hts hout hin hls hr, fun i hi => ?_⟩
      obtain ⟨h0, o, ho, haft⟩ := mem_ready.1 hi
      obtain ⟨s, hs, hg, hpre, hdst⟩ := hall i o ho
      have hil : i < listed.size := by
        rcases Nat.lt_or_ge i listed.size with h | h
        · exact h
        · simp [Array.getElem?_eq_none h] at h0
      unfold wpOp
      rw [ho]
      simp only [Region.wanted, hg, if_true]
      refine .inl (hops i o s ho hs a' w' q' hI' (by omega) (fun p hp => ?_) _ Q (fun v w2 q2 hq2 hI2 hV2 hR2 => ?_))
      · have h1 := hpre p hp
        unfold preOk at h1
        rw [Bool.or_eq_true] at h1
        rcases h1 with h1 | h1
        · rw [Bool.and_eq_true] at h1
          have h2 := hΓ p (by simpa using h1.1)
          have e : a'.eval (.tmp p.1) = a.eval (.tmp p.1) := by
            show a'.tmps.getD p.1 undef = a.tmps.getD p.1 undef
            have := hout p.1 (fun j o' hj hd' => by
              have := Array.all_eq_true_iff_forall_mem.1 h1.2 o' (Array.mem_of_getElem? hj)
              simp [hd'] at this)
            simp only [Array.getD_eq_getD_getElem?, this]
          rw [e]
          exact hV _ _ _ _ hR h2
        · rw [Array.any_eq_true] at h1
          obtain ⟨k, hk, h1⟩ := h1
          rw [Bool.and_eq_true] at h1
          obtain ⟨hb, h1⟩ := h1
          have hls' := haft o.after[k] (Array.getElem_mem hk) hb
          cases ho' : ops[o.after[k].on]? with
          | none => simp [ho'] at h1
          | some o' =>
            cases hs' : sp[o.after[k].on]? with
            | none => simp [ho', hs'] at h1
            | some s' =>
              simp only [ho', hs', Bool.and_eq_true, decide_eq_true_eq, beq_iff_eq] at h1
              have := hin _ o' s' p.1 ho' hs' h1.1 hls'
              rw [h1.2] at this
              exact this
      · refine ih _ _ w2 q2 (by omega) hI2 (hRt _ _ _ hR hR2) ?_ ?_ ?_ ?_ (by simp [hls]) ?_
        · cases hd : o.dst <;> simpa [Act.put] using hdf
        · cases hd : o.dst <;> simpa [Act.put] using hts
        · intro t ht
          have hne := ht i o ho
          cases hd : o.dst with
          | none => simpa [Act.put] using hout t ht
          | some d =>
            have : d ≠ t := fun e => hne (by rw [hd, e])
            simp only [Act.put]
            rw [Array.getElem?_setIfInBounds_ne this]
            exact hout t ht
        · intro j o' s' d hj hs' hd' hlj
          by_cases hji : j = i
          · subst hji
            rw [ho] at hj
            cases hj
            rw [hs] at hs'
            cases hs'
            have hdl := (hdst d hd').1
            rw [hd']
            simp only [Act.put]
            have hdl' : (d : Nat) < a'.tmps.size := hts ▸ hdl
            simpa [Array.getD_eq_getD_getElem?, hdl'] using hV2
          · have hlj' : listed.getD j false = true := by rw [getD_set_ne false (Ne.symm hji)] at hlj; exact hlj
            have h3 := hV _ _ _ _ hR2 (hin j o' s' d hj hs' hd' hlj')
            cases hd : o.dst with
            | none => simpa [Act.put] using h3
            | some d2 =>
              have hne : d2 ≠ d := fun e => hji ((hdst d2 hd).2 j o' hj (by rw [hd', e]))
              simp only [Act.put]
              rw [Array.getD_eq_getD_getElem?, Array.getElem?_setIfInBounds_ne hne, ← Array.getD_eq_getD_getElem?]
              exact h3
        · have hc1 : (listed.setIfInBounds i true).toList.count false = listed.toList.count false - 1 := by
            rw [Array.toList_setIfInBounds, List.count_set (by simpa using hil)]
            simp [hil] at h0
            simp [h0]
          rw [hc1]
          omega
  refine main ops.size _ a w.drew q (Nat.le_refl _) (hd _ _ hI) (hRd _) rfl rfl (fun _ _ => rfl) ?_ (by simp) (by simp [List.count_replicate])
  intro i o s d hi hs hd hl
  simp [Array.getD_eq_getD_getElem?, Array.getElem?_replicate] at hl
  split at hl <;> simp at hl

def AllOk (P : Program) (I : Nat → World → Prop) (V : World → Ty → Value → Prop) (R : World → World → Prop) (C L : Nat) : List Oper → List (List (Nat × Ty) × Ty) → Prop
  | [], [] => True
  | o :: l, s :: sp => OpOk P I V R C L o s.1 s.2 ∧ AllOk P I V R C L l sp
  | _, _ => False
theorem AllOk.cons {I : Nat → World → Prop} {V : World → Ty → Value → Prop} {R : World → World → Prop} {C L : Nat} {o : Oper} {l : List Oper} {s : List (Nat × Ty) × Ty} {sp : List (List (Nat × Ty) × Ty)} (h : OpOk P I V R C L o s.1 s.2) (k : AllOk P I V R C L l sp) : AllOk P I V R C L (o :: l) (s :: sp) := ⟨h, k⟩
theorem GNil {F : Nat × Ty → Prop} : ∀ p ∈ ([] : List (Nat × Ty)), F p := fun _ h => by cases h
theorem GCons {F : Nat × Ty → Prop} {x : Nat × Ty} {l : List (Nat × Ty)} (h : F x) (k : ∀ p ∈ l, F p) : ∀ p ∈ x :: l, F p := fun p hp => by rcases List.mem_cons.1 hp with rfl | hp; exact h; exact k p hp
theorem allOk_get {I : Nat → World → Prop} {V : World → Ty → Value → Prop} {R : World → World → Prop} {C L : Nat} : ∀ {l : List Oper} {sp : List (List (Nat × Ty) × Ty)}, AllOk P I V R C L l sp → ∀ (i : Nat) (o : Oper) (s : List (Nat × Ty) × Ty), l[i]? = some o → sp[i]? = some s → OpOk P I V R C L o s.1 s.2
  | [], [], _, i, o, s, h, _ => by simp at h
  | o :: l, s :: sp, h, 0, o', s', h1, h2 => by
    simp at h1 h2
    subst h1
    subst h2
    exact h.1
  | o :: l, s :: sp, h, i + 1, o', s', h1, h2 => allOk_get h.2 i o' s' (by simpa using h1) (by simpa using h2)
  | [], _ :: _, h, _, _, _, _, _ => h.elim
  | _ :: _, [], h, _, _, _, _, _ => h.elim
def lookT (d : Nat) : List Oper → List (List (Nat × Ty) × Ty) → Option Ty
  | o :: l, s :: sp => if o.dst = some d then some s.2 else lookT d l sp
  | _, _ => none
theorem lookT_get {d : Nat} {T : Ty} : ∀ {l : List Oper} {sp : List (List (Nat × Ty) × Ty)}, lookT d l sp = some T → ∃ (i : Nat) (o : Oper) (s : List (Nat × Ty) × Ty), l[i]? = some o ∧ sp[i]? = some s ∧ o.dst = some d ∧ s.2 = T
  | [], _, h => by simp [lookT] at h
  | _ :: _, [], h => by simp [lookT] at h
  | o :: l, s :: sp, h => by
    unfold lookT at h
    split at h
    · rename_i hd
      exact ⟨0, o, s, rfl, rfl, hd, by simpa using h⟩
    · obtain ⟨i, o', s', h1, h2, h3⟩ := lookT_get h
      exact ⟨i + 1, o', s', by simpa using h1, by simpa using h2, h3⟩

theorem wp_region_typed' {id : Nat} {a : Act} {w : World} (hm : P.follows .mixedOrders = true)
    (I : Nat → World → Prop) (V : World → Ty → Value → Prop) (R : World → World → Prop) (C L : Nat)
    (hRr : ∀ w, R w w) (hRt : ∀ a b c, R a b → R b c → R a c) (hV : ∀ w w' T v, R w w' → V w T v → V w' T v)
    (hd : ∀ q w, I q w → I q w.drew) (hRd : ∀ w, R w w.drew)
    (sp : List (List (Nat × Ty) × Ty)) (Γ : List (Nat × Ty)) (hc : regChk ops sp Γ a.tmps.size = true)
    (hops : AllOk P I V R C L ops.toList sp)
    (q : Nat) (hq : q + ops.size * C ≤ L) (hI : I q w) (hΓ : ∀ p ∈ Γ, V w p.2 (a.eval (.tmp p.1)))
    (ds : List Nat) (hds : ds = ops.toList.filterMap (·.dst))
    (hdone : ∀ (u : Nat → Value) w' q', q' ≤ q + ops.size * C → I q' w' → R w w' → (∀ (d : Nat) (T : Ty), lookT d ops.toList sp = some T → V w' T (u d)) → Q .normal { a with tmps := putsAt ds u a.tmps } w') :
    (Code.region id ops true).wp P Q a w := by
  refine wp_region_typed hm I V R C L hRr hRt hV hd hRd sp Γ hc (fun i o s h1 h2 => allOk_get hops i o s (by simpa using h1) h2) q hq hI hΓ ds hds fun u w' q' h1 h2 h3 h4 => hdone u w' q' h1 h2 h3 fun d T hT => ?_
  obtain ⟨i, o, s, h5, h6, h7, rfl⟩ := lookT_get hT
  exact h4 i o s d (by simpa using h5) h6 h7

/-! the same for a plain list of operations -/
def envPut (Γ : List (Nat × Ty)) (d : Option Nat) (T : Ty) : List (Nat × Ty) :=
  match d with
  | some d => (d, T) :: Γ.filter (fun p => p.1 != d)
  | none => Γ
def seqChk (N : Nat) : List (Nat × Ty) → List Oper → List (List (Nat × Ty) × Ty) → Bool
  | _, [], [] => true
  | Γ, o :: l, s :: sp => o.guard.isNone && s.1.all (fun p => Γ.contains p) && (match o.dst with | some d => decide (d < N) | none => true) && seqChk N (envPut Γ o.dst s.2) l sp
  | _, _, _ => false
def seqEnd : List (Nat × Ty) → List Oper → List (List (Nat × Ty) × Ty) → List (Nat × Ty)
  | Γ, o :: l, s :: sp => seqEnd (envPut Γ o.dst s.2) l sp
  | Γ, _, _ => Γ

theorem wpList_typed0 {all : Array Oper} (I : Nat → World → Prop) (V : World → Ty → Value → Prop) (R : World → World → Prop) (C L : Nat)
    (hRr : ∀ w, R w w) (hRt : ∀ a b c, R a b → R b c → R a c) (hV : ∀ w w' T v, R w w' → V w T v → V w' T v) (N : Nat) :
    ∀ (l : List Oper) (sp : List (List (Nat × Ty) × Ty)) (Γ : List (Nat × Ty)) (a : Act) (w : World) (q : Nat), seqChk N Γ l sp = true → AllOk P I V R C L l sp → q + l.length * C ≤ L → I q w → (∀ p ∈ Γ, V w p.2 (a.eval (.tmp p.1))) → a.tmps.size = N →
      (∀ (a' : Act) (w' : World) (q' : Nat), q' ≤ q + l.length * C → I q' w' → R w w' → a'.defers = a.defers → a'.tmps.size = a.tmps.size → (∀ (t : Nat), t ∉ l.filterMap (·.dst) → a'.tmps[t]? = a.tmps[t]?) → (∀ p ∈ seqEnd Γ l sp, V w' p.2 (a'.eval (.tmp p.1))) → Q .normal a' w') →
      wpList P all Q l a w
  | [], [], Γ, a, w, q, hc, _, hq, hI, hΓ, hN, hK => hK a w q (by omega) hI (hRr w) rfl rfl (fun _ _ => rfl) hΓ
  | o :: l, s :: sp, Γ, a, w, q, hc, hops, hq, hI, hΓ, hN, hK => by
    simp only [seqChk, Bool.and_eq_true, List.all_eq_true] at hc
    obtain ⟨⟨⟨hg, hpre⟩, hd⟩, hc⟩ := hc
    have hg' : o.guard = none := by simpa using hg
    simp only [List.length_cons, Nat.succ_mul] at hq hK
    refine wpList_plain hg' fun K2 hK2 => hops.1 a w q hI (by omega) (fun p hp => hΓ p (by simpa using hpre p hp)) K2 Q fun v w1 q1 hq1 hI1 hV1 hR1 => hK2 _ _ ?_
    have hsz : (a.put o.dst v).tmps.size = a.tmps.size := by cases o.dst <;> simp [Act.put]
    refine wpList_typed0 I V R C L hRr hRt hV N l sp (envPut Γ o.dst s.2) _ w1 q1 hc hops.2 (by omega) hI1 (fun p hp => ?_) (by rw [hsz]; exact hN) (fun a' w' q' h1 h2 h3 h4 h5 h6 h7 => hK a' w' q' (by omega) h2 (hRt _ _ _ hR1 h3) ?_ (by rw [h5, hsz]) (fun t ht => ?_) h7)
    · cases hdst : o.dst with
      | none =>
        rw [hdst] at hp
        exact hV _ _ _ _ hR1 (hΓ p hp)
      | some d =>
        rw [hdst] at hp hd
        have hdl : d < a.tmps.size := by rw [hN]; exact of_decide_eq_true hd
        simp only [envPut, List.mem_cons, List.mem_filter, bne_iff_ne] at hp
        rcases hp with rfl | ⟨hp, hne⟩
        · show V w1 s.2 ((a.tmps.setIfInBounds d v).getD d undef)
          simpa [Array.getD_eq_getD_getElem?, hdl] using hV1
        · have := hV _ _ _ _ hR1 (hΓ p hp)
          show V w1 p.2 ((a.tmps.setIfInBounds d v).getD p.1 undef)
          rw [Array.getD_eq_getD_getElem?, Array.getElem?_setIfInBounds_ne (Ne.symm hne), ← Array.getD_eq_getD_getElem?]
          exact this
    · rw [h4]; cases o.dst <;> rfl
    · cases hdst : o.dst with
      | none =>
        simp only [List.filterMap_cons, hdst] at ht
        rw [h6 t ht, hdst]
        rfl
      | some d =>
        simp only [List.filterMap_cons, hdst, List.mem_cons, not_or] at ht
        rw [h6 t ht.2, hdst]
        simp only [Act.put]
        exact Array.getElem?_setIfInBounds_ne (Ne.symm ht.1)
  | [], _ :: _, _, _, _, _, hc, _, _, _, _, _, _ => by simp [seqChk] at hc
  | _ :: _, [], _, _, _, _, hc, _, _, _, _, _, _ => by simp [seqChk] at hc

theorem wpList_typed {all : Array Oper} {l : List Oper} {a : Act} {w : World} (I : Nat → World → Prop) (V : World → Ty → Value → Prop) (R : World → World → Prop) (C L : Nat)
    (hRr : ∀ w, R w w) (hRt : ∀ a b c, R a b → R b c → R a c) (hV : ∀ w w' T v, R w w' → V w T v → V w' T v)
    (sp : List (List (Nat × Ty) × Ty)) (Γ : List (Nat × Ty)) (hc : seqChk a.tmps.size Γ l sp = true) (hops : AllOk P I V R C L l sp)
    (q : Nat) (hq : q + l.length * C ≤ L) (hI : I q w) (hΓ : ∀ p ∈ Γ, V w p.2 (a.eval (.tmp p.1)))
    (ds : List Nat) (hds : ds = l.filterMap (·.dst))
    (hdone : ∀ (u : Nat → Value) w' q', q' ≤ q + l.length * C → I q' w' → R w w' → (∀ (d : Nat) (T : Ty), ds.contains d && (seqEnd Γ l sp).contains (d, T) && decide (d < a.tmps.size) = true → V w' T (u d)) → Q .normal { a with tmps := putsAt ds u a.tmps } w') :
    wpList P all Q l a w := by
  refine wpList_typed0 I V R C L hRr hRt hV a.tmps.size l sp Γ a w q hc hops hq hI hΓ rfl fun a' w' q' h1 h2 h3 h4 h5 h6 h7 => ?_
  have key : a' = { a with tmps := putsAt ds (fun t => a'.tmps.getD t undef) a.tmps } := by
    have : a'.tmps = putsAt ds (fun t => a'.tmps.getD t undef) a.tmps := by
      apply Array.ext_getElem?
      intro j
      by_cases hj : j < a.tmps.size
      · rw [putsAt_get _ j ds _ hj]
        split
        · simp [show j < a'.tmps.size by omega]
        · rename_i hn
          exact h6 j (by rw [← hds]; exact hn)
      · rw [Array.getElem?_eq_none (by omega), Array.getElem?_eq_none (by rw [putsAt_size]; omega)]
    obtain ⟨t', d'⟩ := a'
    simp only at this h4
    rw [h4]
    simp only [Act.mk.injEq, and_true]
    exact this
  rw [key]
  refine hdone _ w' q' h1 h2 h3 fun d T hT => ?_
  simp only [Bool.and_eq_true, List.contains_iff_mem] at hT
  exact h7 (d, T) hT.1.2
end
end Go.Proofs.Ytjmbhlhkjjinbaa
