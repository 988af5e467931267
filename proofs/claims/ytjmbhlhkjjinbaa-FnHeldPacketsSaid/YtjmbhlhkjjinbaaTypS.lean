/- The types of what the drawing methods handle: structs of integers and the boxes that hold them. No condition. -/
import Derived.Test.YtjmbhlhkjjinbaaTyp
import Derived.Deep.MidRow
namespace Go.Proofs.Ytjmbhlhkjjinbaa
open Go.RowKit
set_option linter.unusedSimpArgs false
set_option linter.unusedVariables false

theorem CS.set' {w : World} {B : Nat} {vc : Value} {n : Nat} {zc : List Int} {q : Nat} (h : CS w B vc n zc q) {b : Nat} (hb : b ≠ B) (hv : n ≠ 0 → ∀ a l c, vc = .slice (some a) l c → a.block ≠ b) (j : Nat) (u : Value) : CS (w.setCell ⟨b, j, none⟩ u) B vc n zc q := by
  obtain ⟨⟨s, h1⟩, h2, h3, h4⟩ := h
  have g := grow_cell w ⟨b, j, none⟩ u
  refine ⟨⟨s, h1.kept g (.inr (by simp [Value.ownBlock]; omega))⟩, ?_, h3, h4⟩
  obtain ⟨k1, k2, k3, a, c, rfl, k5, k6, k7⟩ := h2
  refine ⟨k1, k2, k3, a, c, rfl, k5, k6, ?_⟩
  by_cases h0 : n = 0
  · exact .inl h0
  rcases k7 with k7 | ⟨b', o, rfl, k9, hc⟩
  · exact .inl k7
  · have := hv h0 _ _ _ rfl
    exact .inr ⟨b', o, rfl, by simpa using k9, fun i hi => by rw [World.cell?_setCell_other _ _ _ _ (by simp; exact fun e => absurd e.symm this)]; exact hc i hi⟩

section
variable {B : Nat} {β : List (Nat × List Ty)} {U : Nat → World → Value → Prop} {vc : Value} {n : Nat} {zc : List Int}

def BxN (β : List (Nat × List Ty)) : Prop := ∀ (i j : Nat) (p p' : Nat × List Ty), β[i]? = some p → β[j]? = some p' → p.1 = p'.1 → p = p'

theorem gr_set {w : World} {p : Nat × List Ty} (hp : p ∈ β) (o : Nat) (u : Value) : Gr B β w (w.setCell ⟨p.1, o, none⟩ u) :=
  ⟨rfl, rfl, rfl, by simp, fun k _ _ h2 => heap_setCell_other w ⟨p.1, o, none⟩ k u (fun e => h2 p hp (by simpa using e))⟩

theorem CI.set (hU : UOk B β U) (hN : BxN β) {q : Nat} {w : World} (h : CI B β U vc n zc q w) {i : Nat} {p : Nat × List Ty} (hi : β[i]? = some p) {o : Nat} {T : Ty} (ho : p.2[o]? = some T) {u : Value} (hu : vT B β U w T u) : CI B β U vc n zc q (w.setCell ⟨p.1, o, none⟩ u) := by
  have hp : p ∈ β := List.mem_of_getElem? hi
  obtain ⟨h1, h2⟩ := h
  obtain ⟨p1, p2, p3, p4⟩ := h2 p hp
  refine ⟨h1.set' p1 p3 o u, fun p' hp' => ?_⟩
  obtain ⟨k1, k2, k3, k4⟩ := h2 p' hp'
  refine ⟨k1, by simpa using k2, k3, fun o' T' ho' => ?_⟩
  obtain ⟨x, hx, hc, hf⟩ := k4 o' T' ho'
  have g := gr_set (B := B) (w := w) hp o u
  by_cases e : p'.1 = p.1 ∧ o' = o
  · obtain ⟨e1, rfl⟩ := e
    obtain ⟨i', hi'⟩ := List.getElem?_of_mem hp'
    obtain rfl : p' = p := hN _ _ _ _ hi' hi e1
    rw [ho] at ho'
    cases ho'
    exact ⟨u, vT_mono hU g hu, World.cell?_setCell_same _ _ _ hc, by rw [World.frozen?_setCell]; exact hf⟩
  · refine ⟨x, vT_mono hU g hx, ?_, by rw [World.frozen?_setCell]; exact hf⟩
    rw [World.cell?_setCell_other _ _ _ _ (by simp; exact fun e1 e2 => e ⟨e1.symm, e2.symm⟩)]
    exact hc

theorem setCells_typed (hU : UOk B β U) (hN : BxN β) {q : Nat} {i : Nat} {p : Nat × List Ty} (hi : β[i]? = some p) : ∀ (us : List Value) (o : Nat) (w : World), CI B β U vc n zc q w → (∀ j u, us[j]? = some u → ∃ T, p.2[o + j]? = some T ∧ vT B β U w T u) →
    CI B β U vc n zc q (w.setCells p.1 o us) ∧ Gr B β w (w.setCells p.1 o us)
  | [], o, w, h, _ => ⟨h, Gr.refl _ _ _⟩
  | u :: us, o, w, h, hu => by
    have hp : p ∈ β := List.mem_of_getElem? hi
    obtain ⟨T, h1, h2⟩ := hu 0 u rfl
    have g := gr_set (B := B) (w := w) hp o u
    have h3 := CI.set hU hN h hi h1 h2
    obtain ⟨h4, h5⟩ := setCells_typed hU hN hi us (o + 1) _ h3 (fun j u' hj => by
      obtain ⟨T', k1, k2⟩ := hu (j + 1) u' hj
      exact ⟨T', by rw [show o + 1 + j = o + (j + 1) by omega]; exact k1, vT_mono hU g k2⟩)
    exact ⟨h4, Gr.trans g h5⟩

/-- a box of two integers joins the boxes -/
theorem Bx.nil (w : World) : Bx B [] U vc n w := fun p hp => by cases hp
theorem Bx.cons {w : World} {p : Nat × List Ty} (h1 : p.1 ≠ B) (h2 : p.1 < w.heap.size) (h3 : n ≠ 0 → ∀ a l c, vc = .slice (some a) l c → a.block ≠ p.1) (h4 : ∀ o T, p.2[o]? = some T → ∃ x, intV x ∧ T = .int ∧ w.cell? ⟨p.1, o, none⟩ = some x ∧ w.frozen? ⟨p.1, o, none⟩ = false) (h : ∀ p' ∈ β, p'.1 ≠ B ∧ p'.1 < w.heap.size ∧ (n ≠ 0 → ∀ a l c, vc = .slice (some a) l c → a.block ≠ p'.1) ∧ ∀ o T, p'.2[o]? = some T → ∃ x, intV x ∧ T = .int ∧ w.cell? ⟨p'.1, o, none⟩ = some x ∧ w.frozen? ⟨p'.1, o, none⟩ = false) : Bx B (p :: β) U vc n w := by
  intro p' hp'
  have key : p'.1 ≠ B ∧ p'.1 < w.heap.size ∧ (n ≠ 0 → ∀ a l c, vc = .slice (some a) l c → a.block ≠ p'.1) ∧ ∀ o T, p'.2[o]? = some T → ∃ x, intV x ∧ T = .int ∧ w.cell? ⟨p'.1, o, none⟩ = some x ∧ w.frozen? ⟨p'.1, o, none⟩ = false := by
    rcases List.mem_cons.1 hp' with rfl | hp'
    · exact ⟨h1, h2, h3, h4⟩
    · exact h p' hp'
  obtain ⟨k1, k2, k3, k4⟩ := key
  refine ⟨k1, k2, k3, fun o T ho => ?_⟩
  obtain ⟨x, hx, rfl, hc, hf⟩ := k4 o T ho
  exact ⟨x, hx, hc, hf⟩

section
variable {pre : List (Nat × Ty)} {T : Ty} {dst : Option Tmp} {x y : Operand} {t ty : TypeId} {pos : String} {aft : Array Edge} {g : Option (Nat × Bool)}

/-- the boxes' cells are all integers -/
def intBox (β : List (Nat × List Ty)) (i K : Nat) : Prop := ∃ p, β[i]? = some p ∧ p.2 = List.replicate K .int

theorem rep_get {K j : Nat} (h : j < K) : (List.replicate K Ty.int)[j]? = some .int := by simp [h]

theorem ok_loadS {K i : Nat} (hi : (Try.prog.info? t).map (·.size) = some K) (hu' : (Try.prog.underlying t).any (·.isRow) = true) (hx : oB pre x (.box i 0) = true) (hb : intBox β i K) :
    OK B β U vc n zc { dst := dst, op := .load t x, type := ty, pos := pos, after := aft, guard := g } pre (.agg K) := by
  intro a w q hI hq hp Kn Q hK
  obtain ⟨d, hu, hd⟩ : ∃ d, Try.prog.underlying t = some d ∧ d.isRow = true := by
    cases h : Try.prog.underlying t with
    | none => simp [h] at hu'
    | some d => exact ⟨d, rfl, by simpa [h] using hu'⟩
  obtain ⟨p, hp1, hx2⟩ : vT B β U w (.box i 0) (a.eval x) := oB_sound hx hp
  obtain ⟨p', hp1', hp2⟩ := hb
  rw [hp1] at hp1'
  cases hp1'
  have hB := (hI.2 p (List.mem_of_getElem? hp1)).2.2.2
  rw [hp2] at hB
  have hex : ∀ N, N ≤ K → ∃ zs : List Int, zs.length = N ∧ (∀ z ∈ zs, (Lit.int .i64 z).wf = true) ∧ ∀ j v, (zs.map (Value.int .i64))[j]? = some v → w.cell? ⟨p.1, 0 + j, none⟩ = some v := by
    intro N
    induction N with
    | zero => exact fun _ => ⟨[], rfl, by simp, by simp⟩
    | succ N ih =>
      intro hN
      obtain ⟨zs, h1, h2, h3⟩ := ih (by omega)
      obtain ⟨v, ⟨z, rfl, hz⟩, hc, _⟩ := hB N .int (rep_get (by omega))
      refine ⟨zs ++ [z], by simp [h1], fun y hy => ?_, fun j v hj => ?_⟩
      · rcases List.mem_append.1 hy with hy | hy
        · exact h2 y hy
        · rw [List.mem_singleton] at hy; subst hy; exact hz
      · rw [List.map_append, List.getElem?_append] at hj
        split at hj
        · exact h3 j v hj
        · rename_i hlt
          simp only [List.length_map, h1] at hj hlt
          have hj0 : j - N = 0 := by
            rcases Nat.eq_zero_or_pos (j - N) with h | h
            · exact h
            · rw [List.getElem?_eq_none (by simp; omega)] at hj; cases hj
          rw [hj0] at hj
          simp at hj
          subst hj
          rw [show 0 + j = N by omega]
          exact hc
  obtain ⟨zs, h1, h2, h3⟩ := hex K (Nat.le_refl _)
  refine wp_load_mid t x rfl p.1 0 hx2 (zs.map (Value.int .i64)) d h3 hu hd (by rw [hi]; simp [h1]) ?_
  exact hK _ w q (by omega) hI ⟨zs, rfl, h1, h2⟩ (Gr.refl _ _ _)

theorem ok_storeS {K i : Nat} (hi : (Try.prog.info? t).map (·.size) = some K) (hx : oB pre x (.box i 0) = true) (hy : oB pre y (.agg K) = true) (hb : intBox β i K) (hU : UOk B β U) (hN : BxN β) :
    OK B β U vc n zc { dst := none, op := .store t x y, type := ty, pos := pos, after := aft, guard := g } pre .any := by
  intro a w q hI hq hp Kn Q hK
  obtain ⟨p, hp1, hx2⟩ : vT B β U w (.box i 0) (a.eval x) := oB_sound hx hp
  obtain ⟨zs, hy2, hyl, hyw⟩ : vT B β U w (.agg K) (a.eval y) := oB_sound hy hp
  obtain ⟨p', hp1', hp2⟩ := hb
  rw [hp1] at hp1'
  cases hp1'
  have hB := (hI.2 p (List.mem_of_getElem? hp1)).2.2.2
  rw [hp2] at hB
  refine wp_store_mid t x y rfl p.1 0 (zs.map (Value.int .i64)).toArray hx2 hy2 (fun j hj => ?_) (by rw [hi]; simp [hyl]) (by simp [Value.oneCell']) ?_
  · obtain ⟨v, _, hc, hf⟩ := hB j .int (rep_get (by simpa [hyl] using hj))
    rw [Nat.zero_add]
    exact ⟨by rw [hc]; rfl, hf⟩
  · obtain ⟨h4, h5⟩ := setCells_typed hU hN hp1 (zs.map (Value.int .i64)) 0 w hI (fun j u hj => by
      rw [List.getElem?_map] at hj
      obtain ⟨z, hz, rfl⟩ := Option.map_eq_some_iff.1 hj
      have hjl := (List.getElem?_eq_some_iff.1 hz).1
      exact ⟨.int, by rw [hp2, Nat.zero_add]; exact rep_get (by omega), intV_int (hyw z (List.mem_of_getElem? hz))⟩)
    exact hK undef _ q (by omega) h4 trivial h5

theorem ok_loadI {i o : Nat} (hi : (Try.prog.info? t).map (·.size) = some 1) (hu : Try.prog.underlying t = some (.int .i64)) (hx : oB pre x (.box i o) = true) (hb : ∃ p : Nat × List Ty, β[i]? = some p ∧ p.2[o]? = some .int) :
    OK B β U vc n zc { dst := dst, op := .load t x, type := ty, pos := pos, after := aft, guard := g } pre .int := by
  intro a w q hI hq hp Kn Q hK
  obtain ⟨p, hp1, hx2⟩ : vT B β U w (.box i o) (a.eval x) := oB_sound hx hp
  obtain ⟨p', hp1', hp2⟩ := hb
  rw [hp1] at hp1'
  cases hp1'
  obtain ⟨v, hv, hc, _⟩ := (hI.2 p (List.mem_of_getElem? hp1)).2.2.2 o .int hp2
  have hagg : (isAgg t).run Try.prog w = .ok false w := by
    unfold isAgg
    rw [Sem.run_bind, run_underlying hu w]
    rfl
  have hrun : (Instr.loadAt t (a.eval x)).run Try.prog w = .ok v w := by
    rw [hx2]
    simp [Instr.loadAt, Instr.sureAddr, loadVar, hagg, hc]
  unfold Oper.wp execOp
  simp only [Sem.run_bind, hrun]
  exact hK v w q (by omega) hI hv (Gr.refl _ _ _)

theorem ok_storeI {i o : Nat} (hi : (Try.prog.info? t).map (·.size) = some 1) (hx : oB pre x (.box i o) = true) (hy : oB pre y .int = true) (hb : ∃ p : Nat × List Ty, β[i]? = some p ∧ p.2[o]? = some .int) (hU : UOk B β U) (hN : BxN β) :
    OK B β U vc n zc { dst := none, op := .store t x y, type := ty, pos := pos, after := aft, guard := g } pre .any := by
  intro a w q hI hq hp Kn Q hK
  obtain ⟨p, hp1, hx2⟩ : vT B β U w (.box i o) (a.eval x) := oB_sound hx hp
  obtain ⟨z, hy2, hyw⟩ : vT B β U w .int (a.eval y) := oB_sound hy hp
  obtain ⟨p', hp1', hp2⟩ := hb
  rw [hp1] at hp1'
  cases hp1'
  obtain ⟨v, hv, hc, hf⟩ := (hI.2 p (List.mem_of_getElem? hp1)).2.2.2 o .int hp2
  have hrun : (Instr.storeAt t (a.eval x) (a.eval y)).run Try.prog w = .ok () (w.setCell ⟨p.1, o, none⟩ (.int .i64 z)) := by
    rw [hx2, hy2]
    cases hq : Try.prog.info? t with
    | none => simp [hq] at hi
    | some ie =>
      have hs : ie.size = 1 := by simpa [hq] using hi
      have e : (Value.int .i64 z).cells = #[Value.int .i64 z] := rfl
      have e2 := run_store Try.prog w ⟨p.1, o, none⟩ (.int .i64 z) .plain rfl
      simp only [hc, hf] at e2
      simp [Instr.storeAt, Instr.sureAddr, storeVar, sizeOf, typeInfo, hq, hs, e, storeCells, Addr.add_zero']
      exact e2
  unfold Oper.wp execOp
  simp only [Sem.run_bind, hrun]
  exact hK undef _ q (by omega) (CI.set hU hN hI hp1 hp2 (intV_int hyw)) trivial (gr_set (List.mem_of_getElem? hp1) o _)

set_option maxRecDepth 100000 in
theorem ok_faddr {i f : Nat} (hf : ∀ b w, (Instr.fieldAt t (.pointer (some ⟨b, 0, none⟩)) f).run Try.prog w = .ok (.pointer (some ⟨b, f, none⟩)) w) (hx : oB pre x (.box i 0) = true) :
    OK B β U vc n zc { dst := dst, op := .fieldAddr t x f, type := ty, pos := pos, after := aft, guard := g } pre (.box i f) := by
  intro a w q hI hq hp Kn Q hK
  obtain ⟨p, hp1, hx2⟩ : vT B β U w (.box i 0) (a.eval x) := oB_sound hx hp
  unfold Oper.wp execOp
  simp only [Sem.run_bind, hx2, hf]
  exact hK _ w q (by omega) hI ⟨p, hp1, rfl⟩ (Gr.refl _ _ _)

set_option maxRecDepth 100000 in
theorem ok_build2 {i j : Operand} (hf : ∀ a b w, (Instr.build t #[(0, .int .i64 a), (1, .int .i64 b)]).run Try.prog w = .ok (.agg #[.int .i64 a, .int .i64 b]) w) (hx : oB pre i .int = true) (hy : oB pre j .int = true) :
    OK B β U vc n zc { dst := dst, op := .build t #[(0, i), (1, j)], type := ty, pos := pos, after := aft, guard := g } pre (.agg 2) := by
  intro a w q hI hq hp Kn Q hK
  obtain ⟨z1, h1, w1⟩ : vT B β U w .int (a.eval i) := oB_sound hx hp
  obtain ⟨z2, h2, w2⟩ : vT B β U w .int (a.eval j) := oB_sound hy hp
  unfold Oper.wp execOp
  have e : (#[((0 : Nat), i), (1, j)].map fun x => (x.1, a.eval x.2)) = #[(0, .int .i64 z1), (1, .int .i64 z2)] := by simp [h1, h2]
  simp only [Sem.run_bind, e, hf]
  exact hK _ w q (by omega) hI ⟨[z1, z2], rfl, rfl, by simp [w1, w2]⟩ (Gr.refl _ _ _)
set_option maxRecDepth 100000 in
theorem ok_build3 {i j k : Operand} (hf : ∀ a b c w, (Instr.build t #[(0, .int .i64 a), (1, .int .i64 b), (2, .int .i64 c)]).run Try.prog w = .ok (.agg #[.int .i64 a, .int .i64 b, .int .i64 c]) w) (hx : oB pre i .int = true) (hy : oB pre j .int = true) (hz : oB pre k .int = true) :
    OK B β U vc n zc { dst := dst, op := .build t #[(0, i), (1, j), (2, k)], type := ty, pos := pos, after := aft, guard := g } pre (.agg 3) := by
  intro a w q hI hq hp Kn Q hK
  obtain ⟨z1, h1, w1⟩ : vT B β U w .int (a.eval i) := oB_sound hx hp
  obtain ⟨z2, h2, w2⟩ : vT B β U w .int (a.eval j) := oB_sound hy hp
  obtain ⟨z3, h3, w3⟩ : vT B β U w .int (a.eval k) := oB_sound hz hp
  unfold Oper.wp execOp
  have e : (#[((0 : Nat), i), (1, j), (2, k)].map fun x => (x.1, a.eval x.2)) = #[(0, .int .i64 z1), (1, .int .i64 z2), (2, .int .i64 z3)] := by simp [h1, h2, h3]
  simp only [Sem.run_bind, e, hf]
  exact hK _ w q (by omega) hI ⟨[z1, z2, z3], rfl, rfl, by simp [w1, w2, w3]⟩ (Gr.refl _ _ _)
end
end
end Go.Proofs.Ytjmbhlhkjjinbaa
