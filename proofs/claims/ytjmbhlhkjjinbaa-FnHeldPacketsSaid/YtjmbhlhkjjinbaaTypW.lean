/- The types of drawn regions that hold nets in boxes: loads, stores, the calls that draw fogs, a link, jobs. No condition. -/
import Derived.Test.YtjmbhlhkjjinbaaDFog
import Derived.Test.YtjmbhlhkjjinbaaPkE
import Derived.Test.YtjmbhlhkjjinbaaDLink
import Derived.Test.YtjmbhlhkjjinbaaDAny
import Derived.Test.YtjmbhlhkjjinbaaTypU
namespace Go.Proofs.Ytjmbhlhkjjinbaa
open Go.RowKit
set_option linter.unusedSimpArgs false
set_option linter.unusedVariables false

/-- a row of at most m0 elements of k integers, from block base on, away from the cursor and the boxes -/
def rowU (B : Nat) (β : List (Nat × List Ty)) (base k m0 : Nat) (w : World) (v : Value) : Prop := ∃ m zs, m ≤ m0 ∧ IntRow .i64 k w v m zs ∧ farV B β v ∧ ∀ a l c, v = .slice (some a) l c → base ≤ a.block ∧ a.block < w.heap.size
theorem rowU_gr {B : Nat} {β : List (Nat × List Ty)} {base k m0 : Nat} {w w' : World} {v : Value} (h : rowU B β base k m0 w v) (g : Gr B β w w') : rowU B β base k m0 w' v := by
  obtain ⟨m, zs, h1, h2, h3, h4⟩ := h
  exact ⟨m, zs, h1, introw_gr h2 h3 g, h3, fun a l c e => by have := h4 a l c e; have := g.size; omega⟩
theorem rowU_weak {B : Nat} {β β' : List (Nat × List Ty)} {base base' k m0 : Nat} {w : World} {v : Value} (h : rowU B β base k m0 w v) (hb : base' ≤ base) (hβ : ∀ p ∈ β', p ∈ β ∨ p.1 < base ∨ w.heap.size ≤ p.1) : rowU B β' base' k m0 w v := by
  obtain ⟨m, zs, h1, h2, h3, h4⟩ := h
  refine ⟨m, zs, h1, h2, fun a l c e => ?_, fun a l c e => by have := h4 a l c e; omega⟩
  obtain ⟨k1, k2⟩ := h3 a l c e
  have k4 := h4 a l c e
  refine ⟨k1, fun p hp => ?_⟩
  rcases hβ p hp with k3 | k3
  · exact k2 p k3
  · omega
theorem rowU_slice {B : Nat} {β : List (Nat × List Ty)} {base k m0 : Nat} {w : World} {v : Value} (h : rowU B β base k m0 w v) : ∃ a m c, v = .slice a m c ∧ m ≤ m0 := by
  obtain ⟨m, zs, h1, h2, _⟩ := h
  obtain ⟨a, c, rfl⟩ := introw_slice h2
  exact ⟨a, m, c, rfl, h1⟩
/-- an empty row -/
theorem rowU_nil (B : Nat) (β : List (Nat × List Ty)) (base k m0 : Nat) (w : World) : rowU B β base k m0 w (.slice none 0 0) :=
  ⟨0, [], Nat.zero_le _, ⟨by simp, Nat.zero_le _, by simp, none, 0, rfl, Nat.le_refl _, Nat.zero_le _, .inl rfl⟩, by rintro a l c ⟨⟩, by rintro a l c ⟨⟩⟩
/-- a fresh row -/
theorem rowU_own {B : Nat} {β : List (Nat × List Ty)} {base b0 k m0 m : Nat} {e : TypeId} {w : World} {v : Value} {zs : List Int} (h : w.ownsRow b0 e k v m (zs.map (Value.int .i64))) (hz : ∀ z ∈ zs, (Lit.int .i64 z).wf = true) (hm : m ≤ m0) (hm0 : m0 ≤ 100000) (hb : base ≤ b0) (hB : B < b0) (hβ : ∀ p ∈ β, p.1 < b0) : rowU B β base k m0 w v := by
  refine ⟨m, zs, hm, row_ints h (by unfold maxLen; omega) hz, ?_, ?_⟩
  all_goals
    rintro a l c rfl
    rcases h.2 with ⟨h2, _⟩ | ⟨g, cap, cur, h2, h3, _⟩
    · cases h2
    · injection h2 with h2; injection h2 with h2; subst h2
      have hlt := (h.lt g rfl).2
      first
        | exact ⟨by simp only []; omega, fun p hp => by have := hβ p hp; simp only []; omega⟩
        | exact ⟨by simp only []; omega, hlt⟩
theorem own_blk {w w' : World} {base K m : Nat} {e : TypeId} {v : Value} {xs : List Value} (h : w.ownsRow base e K v m xs) (hb : ∀ g, v.ownBlock = some g → w'.heap[g]? = w.heap[g]?) : w'.ownsRow base e K v m xs := by
  refine ⟨h.1, ?_⟩
  rcases h.2 with h2 | ⟨g, cap, cur, rfl, h3, h4, r⟩
  · exact .inl h2
  · exact .inr ⟨g, cap, cur, rfl, h3, (hb g rfl).trans h4, r⟩
/-- packets of the call's own, above the cursor and the boxes -/
def pkU (B : Nat) (β : List (Nat × List Ty)) (w : World) (v : Value) : Prop := ∃ bP m xs, m ≤ 41 ∧ PkO 13 w bP v m xs ∧ B < bP ∧ ∀ p ∈ β, p.1 < bP
theorem pkU_gr {B : Nat} {β : List (Nat × List Ty)} {w w' : World} {v : Value} (h : pkU B β w v) (g : Gr B β w w') : pkU B β w' v := by
  obtain ⟨bP, m, xs, h1, h2, h3, h4⟩ := h
  have hb : ∀ k, bP ≤ k → k < w.heap.size → w'.heap[k]? = w.heap[k]? := fun k k1 k2 => g.block k k2 (by omega) (fun p hp => by have := h4 p hp; omega)
  refine ⟨bP, m, xs, h1, ⟨own_blk h2.1 (fun k hk => by have := h2.1.lt k hk; exact hb k this.1 this.2), h2.2.imp fun u s c => ⟨own_blk c.1 (fun k hk => by have := c.1.lt k hk; exact hb k this.1 this.2), c.2⟩⟩, h3, h4⟩
/-- 0: a row of a net; 1: a net; 2: fogs; 3: jobs -/
def uN (B : Nat) (β : List (Nat × List Ty)) (base : Nat) : Nat → World → Value → Prop := fun k w v =>
  match k with
  | 0 => rowU B β base 3 45 w v
  | 1 => ∃ x y, v = .agg #[x, y] ∧ rowU B β base 3 45 w x ∧ rowU B β base 3 45 w y
  | 2 => rowU B β base 3 61 w v
  | 3 => pkU B β w v
  | _ => False
theorem uN_ok (B : Nat) (β : List (Nat × List Ty)) (base : Nat) : UOk B β (uN B β base) := by
  intro k w w' v g h
  unfold uN at h ⊢
  split at h <;> first | exact rowU_gr h g | exact pkU_gr h g | exact h | skip
  obtain ⟨x, y, rfl, h1, h2⟩ := h
  exact ⟨x, y, rfl, rowU_gr h1 g, rowU_gr h2 g⟩

section
variable {B : Nat} {β : List (Nat × List Ty)} {base : Nat} {U : Nat → World → Value → Prop} {vc : Value} {n : Nat} {zc : List Int}
variable {pre : List (Nat × Ty)} {T : Ty} {dst : Option Tmp} {x y : Operand} {t t' ty : TypeId} {pos : String} {aft : Array Edge} {g : Option (Nat × Bool)}
def netBox (β : List (Nat × List Ty)) (i : Nat) : Prop := ∃ p, β[i]? = some p ∧ p.2 = [.usr 0, .usr 0]
theorem netBox_cells {w : World} {q i : Nat} {p : Nat × List Ty} (hI : CI B β (uN B β base) vc n zc q w) (hp : β[i]? = some p) (h2 : p.2 = [.usr 0, .usr 0]) : ∃ x y, rowU B β base 3 45 w x ∧ rowU B β base 3 45 w y ∧ w.cell? ⟨p.1, 0, none⟩ = some x ∧ w.cell? ⟨p.1, 1, none⟩ = some y ∧ w.frozen? ⟨p.1, 0, none⟩ = false ∧ w.frozen? ⟨p.1, 1, none⟩ = false := by
  have hB := (hI.2 p (List.mem_of_getElem? hp)).2.2.2
  rw [h2] at hB
  obtain ⟨x, hx, cx, fx⟩ := hB 0 (.usr 0) rfl
  obtain ⟨y, hy, cy, fy⟩ := hB 1 (.usr 0) rfl
  exact ⟨x, y, hx, hy, cx, cy, fx, fy⟩
theorem ok_loadN {i : Nat} (hi : (Try.prog.info? t).map (·.size) = some 2) (hu' : (Try.prog.underlying t).any (·.isRow) = true) (hx : oB pre x (.box i 0) = true) (hb : netBox β i) :
    OK B β (uN B β base) vc n zc { dst := dst, op := .load t x, type := ty, pos := pos, after := aft, guard := g } pre (.usr 1) := by
  intro a w q hI hq hp Kn Q hK
  obtain ⟨d, hu, hd⟩ : ∃ d, Try.prog.underlying t = some d ∧ d.isRow = true := by
    cases h : Try.prog.underlying t with
    | none => simp [h] at hu'
    | some d => exact ⟨d, rfl, by simpa [h] using hu'⟩
  obtain ⟨p, hp1, hx2⟩ : vT B β (uN B β base) w (.box i 0) (a.eval x) := oB_sound hx hp
  obtain ⟨p', hp1', hp2⟩ := hb
  rw [hp1] at hp1'
  cases hp1'
  obtain ⟨u, v, hu1, hv1, cu, cv, _, _⟩ := netBox_cells hI hp1 hp2
  refine wp_load_mid t x rfl p.1 0 hx2 [u, v] d (fun j z hj => ?_) hu hd (by rw [hi]; rfl) ?_
  · match j, hj with
    | 0, hj => simp at hj; subst hj; exact cu
    | 1, hj => simp at hj; subst hj; exact cv
    | j + 2, hj => simp at hj
  · exact hK _ w q (by omega) hI ⟨u, v, rfl, hu1, hv1⟩ (Gr.refl _ _ _)
theorem ok_storeN {i : Nat} (hi : (Try.prog.info? t).map (·.size) = some 2) (hx : oB pre x (.box i 0) = true) (hy : oB pre y (.usr 1) = true) (hb : netBox β i) (hN : BxN β) :
    OK B β (uN B β base) vc n zc { dst := none, op := .store t x y, type := ty, pos := pos, after := aft, guard := g } pre .any := by
  intro a w q hI hq hp Kn Q hK
  obtain ⟨p, hp1, hx2⟩ : vT B β (uN B β base) w (.box i 0) (a.eval x) := oB_sound hx hp
  obtain ⟨u, v, hy2, hu, hv⟩ : uN B β base 1 w (a.eval y) := oB_sound (B := B) (β := β) (U := uN B β base) hy hp
  obtain ⟨p', hp1', hp2⟩ := hb
  rw [hp1] at hp1'
  cases hp1'
  obtain ⟨_, _, _, _, cu, cv, fu, fv⟩ := netBox_cells hI hp1 hp2
  obtain ⟨a1, l1, c1, rfl, _⟩ := rowU_slice hu
  obtain ⟨a2, l2, c2, rfl, _⟩ := rowU_slice hv
  refine wp_store_mid t x y rfl p.1 0 #[.slice a1 l1 c1, .slice a2 l2 c2] hx2 hy2 (fun j hj => ?_) (by rw [hi]; rfl) (by simp [Value.oneCell']) ?_
  · match j, hj with
    | 0, _ => exact ⟨by rw [cu]; rfl, fu⟩
    | 1, _ => exact ⟨by rw [cv]; rfl, fv⟩
    | j + 2, hj => exact absurd hj (by simp)
  · obtain ⟨h4, h5⟩ := setCells_typed (uN_ok B β base) hN hp1 [.slice a1 l1 c1, .slice a2 l2 c2] 0 w hI (fun j z hj => by
      rw [hp2]
      match j, hj with
      | 0, hj => simp at hj; subst hj; exact ⟨.usr 0, rfl, hu⟩
      | 1, hj => simp at hj; subst hj; exact ⟨.usr 0, rfl, hv⟩
      | j + 2, hj => simp at hj)
    exact hK undef _ q (by omega) h4 trivial h5

/-- two boxes of nets -/
theorem Bx.nets {w : World} {b2 b4 : Nat} {x y u v : Value} (h2 : b2 ≠ B) (h4 : b4 ≠ B) (s2 : b2 < w.heap.size) (s4 : b4 < w.heap.size) (hv : n ≠ 0 → ∀ a l c, vc = .slice (some a) l c → a.block ≠ b2 ∧ a.block ≠ b4)
    (cx : w.cell? ⟨b2, 0, none⟩ = some x) (cy : w.cell? ⟨b2, 1, none⟩ = some y) (fx : w.frozen? ⟨b2, 0, none⟩ = false) (fy : w.frozen? ⟨b2, 1, none⟩ = false)
    (cu : w.cell? ⟨b4, 0, none⟩ = some u) (cv : w.cell? ⟨b4, 1, none⟩ = some v) (fu : w.frozen? ⟨b4, 0, none⟩ = false) (fv : w.frozen? ⟨b4, 1, none⟩ = false)
    (hx : rowU B [(b2, [.usr 0, .usr 0]), (b4, [.usr 0, .usr 0])] base 3 45 w x) (hy : rowU B [(b2, [.usr 0, .usr 0]), (b4, [.usr 0, .usr 0])] base 3 45 w y) (hu : rowU B [(b2, [.usr 0, .usr 0]), (b4, [.usr 0, .usr 0])] base 3 45 w u) (hw : rowU B [(b2, [.usr 0, .usr 0]), (b4, [.usr 0, .usr 0])] base 3 45 w v) :
    Bx B [(b2, [.usr 0, .usr 0]), (b4, [.usr 0, .usr 0])] (uN B [(b2, [.usr 0, .usr 0]), (b4, [.usr 0, .usr 0])] base) vc n w := by
  intro p hp
  simp only [List.mem_cons, List.not_mem_nil, or_false] at hp
  rcases hp with rfl | rfl
  · refine ⟨h2, s2, fun h0 a l c e => (hv h0 a l c e).1, fun o T ho => ?_⟩
    match o, ho with
    | 0, ho => simp at ho; subst ho; exact ⟨x, hx, cx, fx⟩
    | 1, ho => simp at ho; subst ho; exact ⟨y, hy, cy, fy⟩
    | o + 2, ho => simp at ho
  · refine ⟨h4, s4, fun h0 a l c e => (hv h0 a l c e).2, fun o T ho => ?_⟩
    match o, ho with
    | 0, ho => simp at ho; subst ho; exact ⟨u, hu, cu, fu⟩
    | 1, ho => simp at ho; subst ho; exact ⟨v, hw, cv, fv⟩
    | o + 2, ho => simp at ho
theorem nets_ne {b2 b4 : Nat} (h : b2 ≠ b4) : BxN [(b2, [.usr 0, .usr 0]), (b4, [.usr 0, .usr 0])] := by
  intro i j p p' hi hj e
  match i, j, hi, hj with
  | 0, 0, hi, hj => simp at hi hj; rw [← hi, ← hj]
  | 0, 1, hi, hj => simp at hi hj; subst hi; subst hj; exact absurd e h
  | 1, 0, hi, hj => simp at hi hj; subst hi; subst hj; exact absurd e.symm h
  | 1, 1, hi, hj => simp at hi hj; rw [← hi, ← hj]
  | i + 2, _, hi, _ => simp at hi
  | 0, j + 2, _, hj => simp at hj
  | 1, j + 2, _, hj => simp at hj
theorem gr_grown {w0 w w' : World} (h : Gr B β w w') (g : w0.grownBy w (some B)) (hβ : ∀ p ∈ β, w0.heap.size ≤ p.1) : w0.grownBy w' (some B) :=
  ⟨h.os.trans g.os, h.tape.trans g.tape, h.output.trans g.output, Nat.le_trans g.size h.size, fun k hk h1 => (h.block k (Nat.lt_of_lt_of_le hk g.size) (by simpa using h1) (fun p hp => by have := hβ p hp; omega)).trans (g.block k hk h1)⟩
theorem cs_far {w : World} {q : Nat} (h : CS w B vc n zc q) : n ≠ 0 → ∀ a l c, vc = .slice (some a) l c → a.block < B := h.2.2.1

/-- a call, at any limit -/
theorem ok_callW {C L : Nat} {f : FuncId} {xs : Array Operand} {ats : Array TypeId} {ts : List Ty} (hf : ∀ (ys : Array Value) (w : World), (callFunc f ys).run Try.prog w = .ok (.enter f ys) w)
    (hc : ∀ (w : World) (q : Nat) (args : List Value), CI B β U vc n zc q w → q ≤ L → argsT B β U w ts args →
      Calls Try.prog f args.toArray w fun e w' => ∃ (v : Value) (q' : Nat), e = .returned v ∧ q' ≤ q + C ∧ CS w' B vc n zc q' ∧ vT B β U w' T v ∧ w.grownBy w' (some B))
    (hl : ts.length = xs.toList.length) (h : (xs.toList.zip ts).all (fun p => oB pre p.1 p.2) = true) (hU : UOk B β U) :
    OpOk Try.prog (CI B β U vc n zc) (vT B β U) (Gr B β) C L { dst := dst, op := .call { callee := .value (.func f), args := xs, argTypes := ats }, type := ty, pos := pos, after := aft, guard := g } pre T := by
  intro a w q hI hq hp K Q hK
  unfold Oper.wp
  rw [execOp_call_go, hf]
  have ha := args_sound (U := U) hp ts xs.toList hl h
  have e : (#[] ++ xs.map a.eval ++ #[] : Array Value) = (xs.toList.map a.eval).toArray := by apply Array.ext'; simp
  rw [e]
  refine (hc w q _ hI hq ha).mono ?_
  rintro e w' ⟨v, q', rfl, hq', hcs, hv, hg⟩
  exact hK v w' q' hq' ⟨hcs, hI.2.grown hU hg⟩ hv (Gr.of_grown hg)

/-- a box of the call's own from block base on -/
theorem base_lt {w : World} {q : Nat} (hβ : ∃ p ∈ β, base ≤ p.1) (hI : CI B β U vc n zc q w) : base ≤ w.heap.size ∧ B < w.heap.size ∧ ∀ p ∈ β, p.1 < w.heap.size := by
  obtain ⟨p, hp, hb⟩ := hβ
  have h1 := hI.1.size
  exact ⟨by have := (hI.2 p hp).2.1; omega, by omega, fun p' hp' => (hI.2 p' hp').2.1⟩
theorem fogU (hβ : ∃ p ∈ β, base ≤ p.1) : ∀ (w : World) (q : Nat) (args : List Value), CI B β (uN B β base) vc n zc q w → q ≤ 100000000000 → argsT B β (uN B β base) w [.cur, .usr 1] args →
      Calls Try.prog 48 args.toArray w fun e w' => ∃ (v : Value) (q' : Nat), e = .returned v ∧ q' ≤ q + 200000000 ∧ CS w' B vc n zc q' ∧ vT B β (uN B β base) w' (.usr 2) v ∧ w.grownBy w' (some B) := by
  intro w q args hI hq ha
  obtain ⟨a0, a1, rfl, h0, h1⟩ := args2 ha
  have h0 : a0 = .pointer (some ⟨B, 0, none⟩) := h0
  obtain ⟨u, v, rfl, hu, hv⟩ : uN B β base 1 w a1 := h1
  subst h0
  obtain ⟨aL, nL, cL, rfl, hnL⟩ := rowU_slice hv
  obtain ⟨b1, b2, b3⟩ := base_lt hβ hI
  refine (fogS u aL nL cL hI.1 (by omega) hnL).mono ?_
  rintro e w' ⟨v, m, zs, q', rfl, hr, hm, hz, hq', hc, hg⟩
  exact ⟨v, q', rfl, by omega, hc, rowU_own hr hz hm (by omega) b1 b2 b3, hg⟩
theorem linkU : ∀ (w : World) (q : Nat) (args : List Value), CI B β (uN B β base) vc n zc q w → q ≤ 100000000000 → argsT B β (uN B β base) w [.cur, .usr 1] args →
      Calls Try.prog 24 args.toArray w fun e w' => ∃ (v : Value) (q' : Nat), e = .returned v ∧ q' ≤ q + 200000000 ∧ CS w' B vc n zc q' ∧ vT B β (uN B β base) w' .int v ∧ w.grownBy w' (some B) := by
  intro w q args hI hq ha
  obtain ⟨a0, a1, rfl, h0, h1⟩ := args2 ha
  have h0 : a0 = .pointer (some ⟨B, 0, none⟩) := h0
  obtain ⟨u, v, rfl, hu, hv⟩ : uN B β base 1 w a1 := h1
  subst h0
  obtain ⟨aL, nL, cL, rfl, hnL⟩ := rowU_slice hv
  obtain ⟨aT, nT, cT, rfl, _⟩ := rowU_slice hu
  refine (linkS (.slice aT nT cT) aL nL cL rfl hI.1 (by omega) (by omega)).mono ?_
  rintro e w' ⟨x, q', rfl, hx, hq', hc, hg⟩
  exact ⟨_, q', rfl, by omega, hc, ⟨x, rfl, hx⟩, hg⟩
theorem secU : ∀ (w : World) (q : Nat) (args : List Value), CI B β (uN B β base) vc n zc q w → q ≤ 100000000000 → argsT B β (uN B β base) w [.cur] args →
      Calls Try.prog 25 args.toArray w fun e w' => ∃ (v : Value) (q' : Nat), e = .returned v ∧ q' ≤ q + 200000000 ∧ CS w' B vc n zc q' ∧ vT B β (uN B β base) w' .int v ∧ w.grownBy w' (some B) := by
  intro w q args hI hq ha
  obtain ⟨a0, rfl, h0⟩ := args1 ha
  have h0 : a0 = .pointer (some ⟨B, 0, none⟩) := h0
  subst h0
  refine (secondS hI.1 (by omega)).mono ?_
  rintro e w' ⟨x, q', rfl, h1, h2, _, hq', hc, hg⟩
  exact ⟨_, q', rfl, by omega, hc, ⟨x, rfl, wf_i64 (by omega)⟩, hg⟩
end
end Go.Proofs.Ytjmbhlhkjjinbaa
