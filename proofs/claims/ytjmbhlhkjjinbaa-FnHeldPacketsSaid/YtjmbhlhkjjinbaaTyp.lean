/- The types of what the drawing methods handle, and what each operation makes of them. No condition. -/
import Derived.Test.YtjmbhlhkjjinbaaReg
import Derived.Great.BuildSlice
namespace Go.Proofs.Ytjmbhlhkjjinbaa
open Go.RowKit
set_option linter.unusedSimpArgs false
set_option linter.unusedVariables false

theorem enters {f : FuncId} {fn : Func} (hf : Try.prog.funcs[f]? = some fn) (hn : (fn.name == "runtime.NumGoroutine") = false) (hb : fn.body.isNone = false) (ys : Array Value) (w : World) : (callFunc f ys).run Try.prog w = .ok (.enter f ys) w := by
  simp [callFunc, hf, hb]
  simp at hn
  simp [hn]
  intro h
  simp [h] at hb
def noU : Nat → World → Value → Prop := fun _ _ _ => False

def intV (v : Value) : Prop := ∃ x : Int, v = .int .i64 x ∧ (Lit.int .i64 x).wf = true
theorem intV_int {x : Int} (h : (Lit.int .i64 x).wf = true) : intV (.int .i64 x) := ⟨x, rfl, h⟩
theorem intV_wrap (x : Int) : intV (.int .i64 (IntKind.i64.wrap x)) := by
  refine ⟨_, rfl, wf_i64 ?_⟩
  rw [IntKind.wrap_i64]
  omega
def farV (B : Nat) (β : List (Nat × List Ty)) (v : Value) : Prop := ∀ a l c, v = .slice (some a) l c → a.block ≠ B ∧ ∀ p ∈ β, a.block ≠ p.1

/-- value v is of type T in world w -/
def vT (B : Nat) (β : List (Nat × List Ty)) (U : Nat → World → Value → Prop) (w : World) : Ty → Value → Prop
  | .any, _ => True
  | .int, v => intV v
  | .bool, v => ∃ b, v = .bool b
  | .cur, v => v = .pointer (some ⟨B, 0, none⟩)
  | .list, v => ∃ m zs, 1 ≤ m ∧ m ≤ 1000 ∧ IntRow .i64 1 w v m zs ∧ farV B β v
  | .rows k, v => ∃ m zs, m ≤ 100000 ∧ IntRow .i64 k w v m zs ∧ farV B β v
  | .agg k, v => ∃ xs : List Int, v = .agg (xs.map (Value.int .i64)).toArray ∧ xs.length = k ∧ ∀ x ∈ xs, (Lit.int .i64 x).wf = true
  | .box i o, v => ∃ p, β[i]? = some p ∧ v = .pointer (some ⟨p.1, o, none⟩)
  | .usr k, v => U k w v

/-- nothing that lay in memory has turned, but the cursor and the boxes -/
structure Gr (B : Nat) (β : List (Nat × List Ty)) (w w' : World) : Prop where
  os : w'.os = w.os
  tape : w'.tape = w.tape
  output : w'.output = w.output
  size : w.heap.size ≤ w'.heap.size
  block : ∀ k, k < w.heap.size → k ≠ B → (∀ p ∈ β, k ≠ p.1) → w'.heap[k]? = w.heap[k]?

theorem Gr.refl (B : Nat) (β : List (Nat × List Ty)) (w : World) : Gr B β w w := ⟨rfl, rfl, rfl, Nat.le_refl _, fun _ _ _ _ => rfl⟩
theorem Gr.trans {B : Nat} {β : List (Nat × List Ty)} {a b c : World} (h : Gr B β a b) (k : Gr B β b c) : Gr B β a c :=
  ⟨k.os.trans h.os, k.tape.trans h.tape, k.output.trans h.output, Nat.le_trans h.size k.size, fun i hi h1 h2 => (k.block i (Nat.lt_of_lt_of_le hi h.size) h1 h2).trans (h.block i hi h1 h2)⟩
theorem Gr.of_grown {B : Nat} {β : List (Nat × List Ty)} {w w' : World} (h : w.grownBy w' (some B)) : Gr B β w w' :=
  ⟨h.os, h.tape, h.output, h.size, fun k hk h1 _ => h.block k hk (by simpa using h1)⟩
theorem Gr.of_ext {B : Nat} {β : List (Nat × List Ty)} {w w' : World} (h : Ext w w') : Gr B β w w' := Gr.of_grown (h.grown.but (some B))
theorem Gr.grown {B : Nat} {w w' : World} (h : Gr B [] w w') : w.grownBy w' (some B) :=
  ⟨h.os, h.tape, h.output, h.size, fun k hk h1 => h.block k hk (by simpa using h1) (by simp)⟩
theorem Gr.ext {B : Nat} {β : List (Nat × List Ty)} {a w w' : World} (h : Gr B β w w') (e : Ext a w) (hB : a.heap.size ≤ B) (hβ : ∀ p ∈ β, a.heap.size ≤ p.1) : Ext a w' :=
  ⟨h.os.trans e.os, h.tape.trans e.tape, h.output.trans e.output, Nat.le_trans e.size h.size, fun k hk => (h.block k (Nat.lt_of_lt_of_le hk e.size) (by omega) (fun p hp => by have := hβ p hp; omega)).trans (e.block k hk)⟩

theorem introw_gr {kd : IntKind} {k : Nat} {B : Nat} {β : List (Nat × List Ty)} {w w' : World} {v : Value} {m : Nat} {zs : List Int} (h : IntRow kd k w v m zs) (hf : farV B β v) (g : Gr B β w w') : IntRow kd k w' v m zs := by
  obtain ⟨h1, h2, h3, a, c, rfl, h5, h6, h7⟩ := h
  refine ⟨h1, h2, h3, a, c, rfl, h5, h6, ?_⟩
  rcases h7 with h7 | ⟨b, o, rfl, h9, hc⟩
  · exact .inl h7
  · have := hf _ _ _ rfl
    exact .inr ⟨b, o, rfl, Nat.lt_of_lt_of_le h9 g.size, fun j hj => (World.cell?_of_block (g.block b h9 this.1 this.2)).trans (hc j hj)⟩

/-- the boxes hold what their types say -/
def Bx (B : Nat) (β : List (Nat × List Ty)) (U : Nat → World → Value → Prop) (vc : Value) (n : Nat) (w : World) : Prop :=
  ∀ p ∈ β, p.1 ≠ B ∧ p.1 < w.heap.size ∧ (n ≠ 0 → ∀ a l c, vc = .slice (some a) l c → a.block ≠ p.1) ∧ ∀ o T, p.2[o]? = some T → ∃ x, vT B β U w T x ∧ w.cell? ⟨p.1, o, none⟩ = some x ∧ w.frozen? ⟨p.1, o, none⟩ = false

section
variable {B : Nat} {β : List (Nat × List Ty)} {U : Nat → World → Value → Prop} {vc : Value} {n : Nat} {zc : List Int}

def UOk (B : Nat) (β : List (Nat × List Ty)) (U : Nat → World → Value → Prop) : Prop := ∀ k w w' v, Gr B β w w' → U k w v → U k w' v

theorem vT_mono (hU : UOk B β U) {w w' : World} {T : Ty} {v : Value} (g : Gr B β w w') (h : vT B β U w T v) : vT B β U w' T v := by
  cases T with
  | list => obtain ⟨m, zs, h1, h2, h3, h4⟩ := h; exact ⟨m, zs, h1, h2, introw_gr h3 h4 g, h4⟩
  | rows k => obtain ⟨m, zs, h1, h3, h4⟩ := h; exact ⟨m, zs, h1, introw_gr h3 h4 g, h4⟩
  | usr k => exact hU k w w' v g h
  | _ => exact h

/-- boxes are as they were where the world has grown or the cursor has gone on -/
theorem Bx.grown (hU : UOk B β U) {w w' : World} (h : Bx B β U vc n w) (g : w.grownBy w' (some B)) : Bx B β U vc n w' := by
  intro p hp
  obtain ⟨h1, h2, h3, h4⟩ := h p hp
  refine ⟨h1, Nat.lt_of_lt_of_le h2 g.size, h3, fun o T ho => ?_⟩
  obtain ⟨x, hx, hc, hf⟩ := h4 o T ho
  have hb := g.block p.1 h2 (by simpa using h1)
  exact ⟨x, vT_mono hU (Gr.of_grown g) hx, (World.cell?_of_block hb).trans hc, (World.frozen?_of_block hb).trans hf⟩

def oB (pre : List (Nat × Ty)) (x : Operand) (T : Ty) : Bool :=
  match x with
  | .tmp t => pre.contains (t, T)
  | .const (.int .i64 z) => decide (T = .int) && (Lit.int .i64 z).wf
  | .const (.bool _) => decide (T = .bool)
  | _ => decide (T = .any)
theorem oB_sound {pre : List (Nat × Ty)} {x : Operand} {T : Ty} {a : Act} {w : World} (h : oB pre x T = true) (hp : ∀ p ∈ pre, vT B β U w p.2 (a.eval (.tmp p.1))) : vT B β U w T (a.eval x) := by
  unfold oB at h
  split at h
  · rename_i t
    exact hp (t, T) (by simpa using h)
  · rename_i z
    simp only [Bool.and_eq_true, decide_eq_true_eq] at h
    obtain ⟨rfl, h⟩ := h
    exact intV_int h
  · simp only [decide_eq_true_eq] at h
    subst h
    exact ⟨_, rfl⟩
  · simp only [decide_eq_true_eq] at h
    subst h
    trivial

def CI (B : Nat) (β : List (Nat × List Ty)) (U : Nat → World → Value → Prop) (vc : Value) (n : Nat) (zc : List Int) (q : Nat) (w : World) : Prop := CS w B vc n zc q ∧ Bx B β U vc n w
abbrev OK (B : Nat) (β : List (Nat × List Ty)) (U : Nat → World → Value → Prop) (vc : Value) (n : Nat) (zc : List Int) (o : Oper) (pre : List (Nat × Ty)) (T : Ty) : Prop :=
  OpOk Try.prog (CI B β U vc n zc) (vT B β U) (Gr B β) 100000 800000000000 o pre T

theorem CI.ext (hU : UOk B β U) {q : Nat} {w w' : World} (h : CI B β U vc n zc q w) (e : Ext w w') : CI B β U vc n zc q w' := ⟨h.1.ext e, h.2.grown hU (e.grown.but (some B))⟩

section
variable {pre : List (Nat × Ty)} {T : Ty} {dst : Option Tmp} {x y : Operand} {t t' ty : TypeId} {pos : String} {aft : Array Edge} {g : Option (Nat × Bool)}

theorem ok_move (h : oB pre x T = true) : OK B β U vc n zc { dst := dst, op := .move x, type := ty, pos := pos, after := aft, guard := g } pre T := by
  intro a w q hI hq hp K Q hK
  exact hK _ w q (by omega) hI (oB_sound h hp) (Gr.refl _ _ _)
theorem ok_assign (h : oB pre x T = true) : OK B β U vc n zc { dst := dst, op := .assign x, type := ty, pos := pos, after := aft, guard := g } pre T := by
  intro a w q hI hq hp K Q hK
  exact hK _ w q (by omega) hI (oB_sound h hp) (Gr.refl _ _ _)
theorem ok_arith {op : BinOp} (ho : op = .add ∨ op = .sub ∨ op = .mul) (hx : oB pre x .int = true) (hy : oB pre y .int = true) : OK B β U vc n zc { dst := dst, op := .binOp op t x y t', type := ty, pos := pos, after := aft, guard := g } pre .int := by
  intro a w q hI hq hp K Q hK
  obtain ⟨m, e1, _⟩ : intV (a.eval x) := oB_sound (B := B) (β := β) (U := U) hx hp
  obtain ⟨k, e2, _⟩ : intV (a.eval y) := oB_sound (B := B) (β := β) (U := U) hy hp
  unfold Oper.wp execOp
  simp only [e1, e2]
  rcases ho with rfl | rfl | rfl <;> exact hK _ w q (by omega) hI (intV_wrap _) (Gr.refl _ _ _)
theorem ok_cmp {op : BinOp} (ho : op = .eql ∨ op = .neq ∨ op = .lss ∨ op = .leq ∨ op = .gtr ∨ op = .geq) (hx : oB pre x .int = true) (hy : oB pre y .int = true) : OK B β U vc n zc { dst := dst, op := .binOp op t x y t', type := ty, pos := pos, after := aft, guard := g } pre .bool := by
  intro a w q hI hq hp K Q hK
  obtain ⟨m, e1, _⟩ : intV (a.eval x) := oB_sound (B := B) (β := β) (U := U) hx hp
  obtain ⟨k, e2, _⟩ : intV (a.eval y) := oB_sound (B := B) (β := β) (U := U) hy hp
  unfold Oper.wp execOp
  simp only [e1, e2]
  rcases ho with rfl | rfl | rfl | rfl | rfl | rfl <;> exact hK _ w q (by omega) hI ⟨_, rfl⟩ (Gr.refl _ _ _)

theorem fill_ints (m : Nat) : ∀ (ps : List (Nat × Value)) (cells : Array Value), cells.size = m → (∀ c ∈ cells.toList, intV c) → (∀ p ∈ ps, p.1 < m ∧ intV p.2) →
    ∃ out, Instr.fill (fun i => some (i * 1, 1)) cells ps = some out ∧ out.size = m ∧ ∀ c ∈ out.toList, intV c
  | [], cells, h1, h2, _ => ⟨cells, rfl, h1, h2⟩
  | (i, v) :: ps, cells, h1, h2, h3 => by
    obtain ⟨hi, z, rfl, hz⟩ := h3 (i, v) (by simp)
    have hi' : i < m := hi
    have hs : (Value.int .i64 z).cells = #[Value.int .i64 z] := rfl
    unfold Instr.fill
    simp only [hs]
    rw [if_neg (by simp; omega)]
    refine fill_ints m ps _ (by simpa using h1) (fun c hc => ?_) (fun p hp => h3 p (by simp [hp]))
    have hc2 : c ∈ (cells.setIfInBounds (i * 1 + 0) (Value.int .i64 z)).toList := by simpa using hc
    rw [Array.toList_setIfInBounds] at hc2
    rcases List.mem_or_eq_of_mem_set hc2 with h | rfl
    · exact h2 c h
    · exact ⟨z, rfl, hz⟩

set_option maxRecDepth 100000 in
theorem ok_list (hu : Try.prog.underlying 32 = some (.slice 3)) {m : Nat} {parts : Array (Nat × Operand)} (hm : 1 ≤ m ∧ m ≤ 1000) (h : parts.toList.all (fun p => decide (p.1 < m) && oB pre p.2 .int) = true) (hU : UOk B β U) :
    OK B β U vc n zc { dst := dst, op := .buildSlice 32 m parts, type := ty, pos := pos, after := aft, guard := g } pre .list := by
  intro a w q hI hq hp K Q hK
  obtain ⟨ie, hie, hsz, hzz⟩ : ∃ ie, Try.prog.info? 3 = some ie ∧ ie.size = 1 ∧ ie.zero = some (.int .i64 0) := ⟨_, rfl, rfl, rfl⟩
  have hcells : (Value.int .i64 0).cells = #[Value.int .i64 0] := rfl
  obtain ⟨out, hf, ho, hc⟩ := fill_ints m ((parts.map fun (i, x) => (i, a.eval x)).toList) ((Array.range (m * 1)).map ((Value.int .i64 0).cells[· % (Value.int .i64 0).cells.size]!)) (by simp) (fun c hc => by
      rw [hcells] at hc
      simp [Nat.mod_one] at hc
      exact ⟨0, hc.2.symm, by decide⟩) (fun p hp' => by
      rw [Array.toList_map] at hp'
      obtain ⟨r, hr, rfl⟩ := List.mem_map.1 hp'
      have := List.all_eq_true.1 h r hr
      simp only [Bool.and_eq_true, decide_eq_true_eq] at this
      exact ⟨this.1, oB_sound (B := B) (β := β) (U := U) this.2 hp⟩)
  refine wp_buildSlice 32 3 m parts rfl out ie (.int .i64 0) hu hie hzz (by rw [hsz]; omega) (by rw [hsz]; omega) (by rw [hsz]; exact hf) ?_
  obtain ⟨zs, hzs, hw⟩ := list_ints out.toList (fun j v hj => hc v (List.mem_of_getElem? hj))
  have e : Ext w (w.alloc (.cells out 3)) := (by repeat (first | exact Ext.refl _ | assumption | refine Ext.alloc ?_ _ | refine Ext.drew ?_ | refine Ext.drewN ?_ _ | refine Ext.setCell ?_ (by first | exact Nat.le_refl _ | (simp; done) | (dsimp only; omega) | (simp only [World.size_alloc, World.size_setCell]; omega)) _ | refine Ext.trans ?_ (by assumption)))
  have hB := hI.1.size
  have hl : zs.length = m := by
    have := congrArg List.length hzs
    simp at this
    omega
  refine hK _ _ q (by omega) (hI.ext hU e) ⟨m, zs, hm.1, hm.2, lit_row w out m zs hm.2 hl hzs (fun z hz => wf_bd (hw z hz)), ?_⟩ (Gr.of_ext e)
  rintro a' l c ⟨rfl⟩
  refine ⟨(by simp only []; omega), fun p hp' => ?_⟩
  have := (hI.2 p hp').2.1
  simp only []
  omega

def argsT (B : Nat) (β : List (Nat × List Ty)) (U : Nat → World → Value → Prop) (w : World) : List Ty → List Value → Prop
  | [], [] => True
  | T :: ts, v :: vs => vT B β U w T v ∧ argsT B β U w ts vs
  | _, _ => False

/-- the contract of a drawing method -/
def CallT (vc : Value) (n : Nat) (zc : List Int) (f : FuncId) (ts : List Ty) (T : Ty) : Prop :=
  ∀ (B : Nat) (β : List (Nat × List Ty)) (U : Nat → World → Value → Prop) (w : World) (q : Nat) (args : List Value), UOk B β U → CI B β U vc n zc q w → q ≤ 800000000000 → argsT B β U w ts args →
    Calls Try.prog f args.toArray w fun e w' => ∃ (v : Value) (q' : Nat), e = .returned v ∧ q' ≤ q + 100000 ∧ CS w' B vc n zc q' ∧ vT B β U w' T v ∧ w.grownBy w' (some B)

theorem args_sound {a : Act} {w : World} (hp : ∀ p ∈ pre, vT B β U w p.2 (a.eval (.tmp p.1))) : ∀ (ts : List Ty) (xs : List Operand), ts.length = xs.length → (xs.zip ts).all (fun p => oB pre p.1 p.2) = true → argsT B β U w ts (xs.map a.eval)
  | [], [], _, _ => trivial
  | T :: ts, x :: xs, hl, h => by
    simp only [List.zip_cons_cons, List.all_cons, Bool.and_eq_true] at h
    exact ⟨oB_sound h.1 hp, args_sound hp ts xs (by simpa using hl) h.2⟩
  | [], _ :: _, hl, _ => by simp at hl
  | _ :: _, [], hl, _ => by simp at hl

theorem ok_call {f : FuncId} {xs : Array Operand} {ats : Array TypeId} {ts : List Ty} (hf : ∀ (ys : Array Value) (w : World), (callFunc f ys).run Try.prog w = .ok (.enter f ys) w)
    (hc : CallT vc n zc f ts T) (hl : ts.length = xs.toList.length) (h : (xs.toList.zip ts).all (fun p => oB pre p.1 p.2) = true) (hU : UOk B β U) :
    OK B β U vc n zc { dst := dst, op := .call { callee := .value (.func f), args := xs, argTypes := ats }, type := ty, pos := pos, after := aft, guard := g } pre T := by
  intro a w q hI hq hp K Q hK
  unfold Oper.wp
  rw [execOp_call_go, hf]
  have ha := args_sound (U := U) hp ts xs.toList hl h
  have e : (#[] ++ xs.map a.eval ++ #[] : Array Value) = (xs.toList.map a.eval).toArray := by apply Array.ext'; simp
  rw [e]
  refine (hc B β U w q _ hU hI hq ha).mono ?_
  rintro e w' ⟨v, q', rfl, hq', hcs, hv, hg⟩
  exact hK v w' q' hq' ⟨hcs, hI.2.grown hU hg⟩ hv (Gr.of_grown hg)
end
end

theorem args1 {B : Nat} {β : List (Nat × List Ty)} {U : Nat → World → Value → Prop} {w : World} {T1 : Ty} {args : List Value} (h : argsT B β U w [T1] args) : ∃ a, args = [a] ∧ vT B β U w T1 a := by
  match args, h with
  | [a], h => exact ⟨a, rfl, h.1⟩
theorem args2 {B : Nat} {β : List (Nat × List Ty)} {U : Nat → World → Value → Prop} {w : World} {T1 T2 : Ty} {args : List Value} (h : argsT B β U w [T1, T2] args) : ∃ a b, args = [a, b] ∧ vT B β U w T1 a ∧ vT B β U w T2 b := by
  match args, h with
  | [a, b], h => exact ⟨a, b, rfl, h.1, h.2.1⟩
theorem args3 {B : Nat} {β : List (Nat × List Ty)} {U : Nat → World → Value → Prop} {w : World} {T1 T2 T3 : Ty} {args : List Value} (h : argsT B β U w [T1, T2, T3] args) : ∃ a b c, args = [a, b, c] ∧ vT B β U w T1 a ∧ vT B β U w T2 b ∧ vT B β U w T3 c := by
  match args, h with
  | [a, b, c], h => exact ⟨a, b, c, rfl, h.1, h.2.1, h.2.2.1⟩

theorem pickT (vc : Value) (n : Nat) (zc : List Int) : CallT vc n zc 23 [.cur, .int] .int := by
  intro B β U w q args hU hI hq ha
  obtain ⟨a0, a1, rfl, rfl, m, rfl, _⟩ := args2 ha
  refine (pickS m hI.1 (by omega)).mono ?_
  rintro e w' ⟨x, q', rfl, h1, h2, _, h4, h5, h6, h7⟩
  exact ⟨_, q', rfl, by omega, h6, intV_int (wf_i64 (by omega)), h7⟩
theorem oneT (vc : Value) (n : Nat) (zc : List Int) : CallT vc n zc 22 [.cur, .int] .bool := by
  intro B β U w q args hU hI hq ha
  obtain ⟨a0, a1, rfl, rfl, m, rfl, _⟩ := args2 ha
  refine (oneS m hI.1 (by omega)).mono ?_
  rintro e w' ⟨x, q', rfl, h4, h5, h6, h7⟩
  exact ⟨_, q', rfl, by omega, h6, ⟨_, rfl⟩, h7⟩
theorem amongT (vc : Value) (n : Nat) (zc : List Int) : CallT vc n zc 34 [.cur, .list] .int := by
  intro B β U w q args hU hI hq ha
  obtain ⟨a0, a1, rfl, rfl, m, zs, hm1, hm2, hr, hfar⟩ := args2 ha
  refine (amongS a1 m zs hI.1 (by omega) hr hm1 hm2 (fun a l c e => (hfar a l c e).1)).mono ?_
  rintro e w' ⟨i, q', hi, rfl, h4, h5, h6, h7⟩
  exact ⟨_, q', rfl, by omega, h6, intV_int (getD_wf hr.2.2.1 (by have := hr.1; omega)), h7⟩
end Go.Proofs.Ytjmbhlhkjjinbaa
