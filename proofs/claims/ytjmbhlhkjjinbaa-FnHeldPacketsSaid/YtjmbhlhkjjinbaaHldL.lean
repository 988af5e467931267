/- The sort of fogs, as the library's tools lay it at this dump. No condition. -/
import Derived.Shelf.SlSortCmp.NoneTotal
import Derived.Ground.SlsfProg
import Derived.Test.YtjmbhlhkjjinbaaHldK
namespace Go.Proofs
open Go.Shelf
def Try.sortFogs_ren : Go.Shelf.Ren := ⟨fun | 6 => 65 | 15 => 81 | 14 => 80 | 28 => 92 | 29 => 93 | 20 => 84 | 21 => 85 | 22 => 86 | 23 => 87 | 24 => 88 | 25 => 89 | 26 => 90 | 27 => 91 | 46 => 94 | 47 => 95 | 48 => 96 | 49 => 97 | 50 => 98 | 57 => 99 | n => n, fun | 22 => 28 | 24 => 78 | 25 => 99 | 3 => 3 | 39 => 108 | 0 => 0 | 53 => 123 | 55 => 55 | 4 => 4 | 46 => 117 | 45 => 116 | 50 => 52 | 5 => 5 | 9 => 9 | 66 => 125 | 70 => 129 | 76 => 131 | 77 => 132 | n => n, fun | n => n⟩
theorem Try.sortFogs : Go.Proofs.SlLaysF0.n6 Try.prog Try.sortFogs_ren := {
  mixed := by kernel_rfl
  f6 := ⟨Try.f65.name, by decide, Try.func65.trans (congrArg some (by kernel_rfl))⟩
  f14 := ⟨Try.f80.name, by decide, Try.func80.trans (congrArg some (by kernel_rfl))⟩
  f15 := Try.func81.trans (congrArg some (by kernel_rfl))
  f20 := ⟨Try.f84.name, by decide, Try.func84.trans (congrArg some (by kernel_rfl))⟩
  f21 := ⟨Try.f85.name, by decide, Try.func85.trans (congrArg some (by kernel_rfl))⟩
  f22 := ⟨Try.f86.name, by decide, Try.func86.trans (congrArg some (by kernel_rfl))⟩
  f23 := ⟨Try.f87.name, by decide, Try.func87.trans (congrArg some (by kernel_rfl))⟩
  f24 := ⟨Try.f88.name, by decide, Try.func88.trans (congrArg some (by kernel_rfl))⟩
  f25 := ⟨Try.f89.name, by decide, Try.func89.trans (congrArg some (by kernel_rfl))⟩
  f26 := ⟨Try.f90.name, by decide, Try.func90.trans (congrArg some (by kernel_rfl))⟩
  f27 := ⟨Try.f91.name, by decide, Try.func91.trans (congrArg some (by kernel_rfl))⟩
  f28 := Try.func92.trans (congrArg some (by kernel_rfl))
  f29 := Try.func93.trans (congrArg some (by kernel_rfl))
  f46 := ⟨Try.f94.name, by decide, Try.func94.trans (congrArg some (by kernel_rfl))⟩
  f47 := Try.func95.trans (congrArg some (by kernel_rfl))
  f48 := Try.func96.trans (congrArg some (by kernel_rfl))
  f49 := ⟨Try.f97.name, by decide, Try.func97.trans (congrArg some (by kernel_rfl))⟩
  f50 := ⟨Try.f98.name, by decide, Try.func98.trans (congrArg some (by kernel_rfl))⟩
  f57 := ⟨Try.f99.name, by decide, Try.func99.trans (congrArg some (by kernel_rfl))⟩
  t0 := Try.underlying0
  a0 := Try.isAgg0
  z0 := Try.sizeOf0
  v0 := Try.zeroValue0
  t3 := Try.underlying3
  a3 := Try.isAgg3
  z3 := Try.sizeOf3
  v3 := Try.zeroValue3
  t4 := Try.underlying4
  a4 := Try.isAgg4
  z4 := Try.sizeOf4
  v4 := Try.zeroValue4
  t5 := Try.underlying5
  a5 := Try.isAgg5
  z5 := Try.sizeOf5
  v5 := Try.zeroValue5
  t9 := Try.underlying9
  a9 := Try.isAgg9
  z9 := Try.sizeOf9
  v9 := Try.zeroValue9
  t22 := Try.underlying28
  a22 := Try.isAgg28
  z22 := Try.sizeOf28
  v22 := Try.zeroValue28
  t25 := Try.underlying99
  a25 := Try.isAgg99
  z25 := Try.sizeOf99
  v25 := Try.zeroValue99
  t39 := Try.underlying108
  a39 := Try.isAgg108
  z39 := Try.sizeOf108
  v39 := Try.zeroValue108
  t45 := Try.underlying116
  a45 := Try.isAgg116
  z45 := Try.sizeOf116
  v45 := Try.zeroValue116
  t46 := Try.underlying117
  a46 := Try.isAgg117
  z46 := Try.sizeOf117
  v46 := Try.zeroValue117
  t50 := Try.underlying52
  a50 := Try.isAgg52
  z50 := Try.sizeOf52
  v50 := Try.zeroValue52
  t53 := Try.underlying123
  a53 := Try.isAgg123
  z53 := Try.sizeOf123
  v53 := Try.zeroValue123
  t55 := Try.underlying55
  a55 := Try.isAgg55
  z55 := Try.sizeOf55
  v55 := Try.zeroValue55
  t66 := Try.underlying125
  a66 := Try.isAgg125
  z66 := Try.sizeOf125
  v66 := Try.zeroValue125
  t70 := Try.underlying129
  a70 := Try.isAgg129
  z70 := Try.sizeOf129
  v70 := Try.zeroValue129
  t76 := Try.underlying131
  a76 := Try.isAgg131
  z76 := Try.sizeOf131
  v76 := Try.zeroValue131
  t77 := Try.underlying132
  a77 := Try.isAgg132
  z77 := Try.sizeOf132
  v77 := Try.zeroValue132 }
end Go.Proofs
namespace Go.Proofs.Ytjmbhlhkjjinbaa
open Go.RowKit
set_option linter.unusedSimpArgs false
set_option linter.unusedVariables false
open Go.Shelf Go.Sort

def enc3 (x : Tri) : List Value := [.int .i64 x.1, .int .i64 x.2.1, .int .i64 x.2.2]
def c3 (x : Tri) (r : Nat) : Int := if r = 0 then x.1 else if r = 1 then x.2.1 else x.2.2
theorem flat_get : ∀ (T : List Tri) (t : Nat), (flat T)[t]? = (T[t / 3]?).map fun x => c3 x (t % 3)
  | [], t => by simp [flat]
  | x :: T, t => by
    have e : flat (x :: T) = x.1 :: x.2.1 :: x.2.2 :: flat T := by simp [flat]
    rw [e]
    match t with
    | 0 => simp [c3]
    | 1 => simp [c3]
    | 2 => simp [c3]
    | t + 3 =>
      have := flat_get T t
      rw [show (t + 3) / 3 = t / 3 + 1 by omega, show (t + 3) % 3 = t % 3 by omega]
      simpa using this
theorem enc3_get (x : Tri) {r : Nat} (h : r < 3) : (enc3 x)[r]! = .int .i64 (c3 x r) := by
  match r, h with
  | 0, _ => rfl
  | 1, _ => rfl
  | 2, _ => rfl
theorem flatK_list (d : Array Tri) : (flatK enc3 3 d).toList = (flat d.toList).map (Value.int .i64) := by
  apply List.ext_getElem?
  intro t
  rw [List.getElem?_map, flat_get, Array.getElem?_toList]
  by_cases h : t < d.size * 3
  · have h3 : t / 3 < d.size := by omega
    have e := get_flatK enc3 3 d t h
    rw [Array.getElem?_eq_getElem (by simpa using h), ← getElem!_pos (flatK enc3 3 d) t (by simpa using h), e, enc3_get _ (by omega), Array.getElem?_toList, Array.getElem?_eq_getElem h3, getElem!_pos d _ h3]
    rfl
  · rw [Array.getElem?_eq_none (by simp; omega), List.getElem?_eq_none (by simp; omega)]
    rfl
theorem tri_flat (T : List Tri) : tri (flat T) T.length = T := by
  apply List.ext_getElem?
  intro i
  by_cases h : i < T.length
  · rw [tri_getElem? h]
    have g : ∀ r, r < 3 → (flat T).getD (i * 3 + r) 0 = c3 T[i] r := fun r hr => by
      rw [List.getD_eq_getElem?_getD, flat_get, show (i * 3 + r) / 3 = i by omega, show (i * 3 + r) % 3 = r by omega, List.getElem?_eq_getElem h]
      rfl
    have g0 := g 0 (by omega)
    have g1 := g 1 (by omega)
    have g2 := g 2 (by omega)
    rw [List.getElem?_eq_getElem h]
    congr 1
    unfold triAt
    refine Prod.ext ?_ (Prod.ext ?_ ?_)
    · exact g0
    · exact g1
    · exact g2
  · rw [List.getElem?_eq_none (by simp [tri]; omega), List.getElem?_eq_none (by omega)]
theorem flat_tri {z : List Int} {n : Nat} (hl : z.length = n * 3) : flat (tri z n) = z := by
  apply List.ext_getElem?
  intro t
  rw [flat_get]
  by_cases h : t < n * 3
  · rw [tri_getElem? (show t / 3 < n by omega), List.getElem?_eq_getElem (by omega)]
    simp only [Option.map_some]
    congr 1
    have e : z.getD t 0 = z[t] := by simp [List.getD_eq_getElem?_getD, List.getElem?_eq_getElem (show t < z.length by omega)]
    rw [← e]
    unfold c3 triAt
    rcases (by omega : t % 3 = 0 ∨ t % 3 = 1 ∨ t % 3 = 2) with r | r | r
    · rw [r, if_pos rfl]
      exact congrArg (fun i => z.getD i 0) (by omega)
    · rw [r, if_neg (by omega), if_pos rfl]
      exact congrArg (fun i => z.getD i 0) (by omega)
    · rw [r, if_neg (by omega), if_neg (by omega)]
      exact congrArg (fun i => z.getD i 0) (by omega)
  · rw [List.getElem?_eq_none (by simp [tri]; omega), List.getElem?_eq_none (by omega)]
    rfl

theorem holds_row {w : World} {base : Nat} {e : TypeId} {g n cap : Nat} {xs : List Value} {size : Nat} (h : w.ownsRow base e size (.slice (some ⟨g, 0, none⟩) n cap) n xs) {F : Array Value} (hF : F.toList = xs) : Holds id w g 0 F := by
  intro j hj
  have hl : F.size = n * size := by rw [← h.1, ← hF]; simp
  refine ⟨?_, ?_⟩
  · rw [show 0 + j = j by omega, h.cellAt j (by omega), ← hF, Array.getElem?_toList, Array.getElem?_eq_getElem hj, getElem!_pos F j hj]
    rfl
  · rw [show 0 + j = j by omega]
    exact h.frozenAt j
theorem row_put {w : World} {base : Nat} {e : TypeId} {g n cap q : Nat} {xs : List Value} {size : Nat} (h : w.ownsRow base e size (.slice (some ⟨g, 0, none⟩) n cap) n xs) {F : Array Value} (hF : F.size = n * size) : (putRow id (Sort.ahead w q) g 0 F).ownsRow base e size (.slice (some ⟨g, 0, none⟩) n cap) n F.toList := by
  rcases h.2 with ⟨e0, _⟩ | ⟨g', cap', cur, e0, hb, hg, hn, hm, hs, ht⟩
  · cases e0
  · injection e0 with e1 _ e3
    injection e1 with e1
    injection e1 with e1
    subst e1; subst e3
    refine ⟨by simpa using hF, .inr ⟨g, cap, putCells id 0 F cur, rfl, hb, ?_, hn, hm, by simpa [putCells] using hs, ?_⟩⟩
    · simp [putRow, mapBlock, Sort.ahead, Array.getElem?_modify, hg, onCells]
    · have hcap : n * size ≤ cap * size := Nat.mul_le_mul_right size hn
      apply List.ext_getElem?
      intro j
      rw [List.getElem?_take, Array.getElem?_toList, Array.getElem?_toList]
      by_cases hj : j < n * size
      · have hjc : j < cur.size := by omega
        simp only [if_pos hj, putCells, Array.getElem?_mapIdx, Array.getElem?_eq_getElem hjc, Option.map_some]
        rw [if_pos (by simp; omega), Array.getElem?_eq_getElem (by omega)]
        simp [getElem!_pos, show j < F.size by omega]
      · rw [if_neg hj, Array.getElem?_eq_none (by omega)]
theorem grown_grow3 (w : World) (os : Array Obj) (r : Option Nat) : w.grownBy (Go.Sort.grow w os) r := ⟨rfl, rfl, rfl, by simp, fun k hk _ => Go.Sort.heap_grow_old w os hk⟩
theorem grown_put3 (w : World) (n g : Nat) (F : Array Value) : w.grownBy (putRow id (Sort.ahead w n) g 0 F) (some g) :=
  ⟨rfl, rfl, rfl, by simp [putRow, mapBlock, Sort.ahead], fun k _ hk => by
    have : g ≠ k := fun e => hk (by rw [e])
    simp [putRow, mapBlock, Sort.ahead, Array.getElem?_modify, this]⟩

def cfT (a b : Tri) : Int := cmp2 (a.1) (a.2.1) (b.1) (b.2.1)
theorem ltT (a b : Tri) : ltOf cfT a b = bef a b := by
  unfold ltOf cfT
  rw [cmp2_lt]
  rfl
theorem swoT : SWO (ltOf cfT) where
  irrefl x := by rw [ltT]; exact bef_irrefl x
  trans x y z h1 h2 := by rw [ltT] at *; exact bef_trans h1 h2
  ntrans x y z h1 h2 := by rw [ltT] at *; exact bef_ntrans h1 h2

set_option maxRecDepth 100000 in
set_option maxHeartbeats 1000000 in
theorem sortFogs_any (base : Nat) (v : Value) (n : Nat) (zs : List Int) (w : World) (h : w.ownsRow base 78 3 v n (zs.map (Value.int .i64))) (h0 : 0 < n) (hn : n ≤ 1000000) :
    Calls Try.prog 65 #[v, .func (.func 64) #[] #[]] w fun e w' => e = .returned (.tuple #[]) ∧ ∃ ys : List Int, ys.length = n * 3 ∧ (tri ys n).Perm (tri zs n) ∧ (tri ys n).Pairwise (fun a b => bef b a = false) ∧ w'.ownsRow base 78 3 v n (ys.map (Value.int .i64)) ∧ w.grownBy w' v.ownBlock := by
  have hl : zs.length = n * 3 := by simpa using h.1
  obtain ⟨a, cap, rfl, hnc, hcm, hg⟩ := row_shape h
  obtain ⟨g, rfl, hg1, hg2⟩ := hg.resolve_left (by omega)
  have hd : ((tri zs n).toArray).size = n := by simp [tri]
  have hH : HoldsK enc3 3 w g 0 (tri zs n).toArray := holds_row h (by rw [flatK_list]; simp [flat_tri hl])
  have eg : ∀ args w, (callFunc 64 args).run Try.prog w = .ok (.enter 64 args) w := enters_of Try.func64 (by kernel_rfl) rfl
  have hc : CmpLays Try.prog 64 #[] enc3 3 cfT g 0 (tri zs n).toArray.size w := fun m os dk _ x y => compareFogs_gro x.1 x.2.1 x.2.2 y.1 y.2.1 y.2.2 _
  have hcon := AnyQ.slices_SortFunc Try.sortFogs 3 Try.isAgg78 Try.sizeOf78 enc3 (fun _ => rfl) (fun x v hv => by simp [enc3] at hv; rcases hv with rfl | rfl | rfl <;> rfl) cfT swoT 64 #[] g 0 cap (tri zs n).toArray w eg hc hH hg2 (by rw [hd]; omega)
  rw [hd] at hcon
  refine (show Calls Try.prog 65 _ w _ from hcon).mono ?_
  rintro e w' ⟨rfl, d', q, os, hp, hs, rfl⟩
  obtain ⟨hp1, _, hp3⟩ := hp
  have hn' : d'.size = n := by rw [hp1, hd]
  have hlen : d'.toList.length = n := by simpa using hn'
  have hfl : flat d'.toList = (flat d'.toList) := rfl
  refine ⟨rfl, flat d'.toList, by rw [flat_length, hlen], ?_, ?_, ?_, ?_⟩
  · have e1 := tri_flat d'.toList
    rw [hlen] at e1
    rw [e1]
    have e2 : (d'.extract 0 n).toList = d'.toList := by simp [← hn']
    have e3 : ((tri zs n).toArray.extract 0 n).toList = tri zs n := by
      simp only [List.extract_toArray, List.extract_eq_take_drop, Nat.sub_zero, List.drop_zero]
      exact List.take_of_length_le (by simp [tri])
    rw [e2, e3] at hp3
    exact hp3
  · have e1 := tri_flat d'.toList
    rw [hlen] at e1
    rw [e1, List.pairwise_iff_getElem]
    intro i j hi hj hij
    have := hs i j (Nat.zero_le _) hij (by simpa [hn'] using hj)
    rw [ltT, getElem!_pos d' i (by simpa using hi), getElem!_pos d' j (by simpa using hj)] at this
    simpa using this
  · have hr := row_put (q := q) h (F := flatK enc3 3 d') (by rw [size_flatK, hn'])
    rw [flatK_list] at hr
    exact hr.kept (grown_grow3 _ os none) (by simp [Value.ownBlock])
  · exact World.grownBy.trans (grown_put3 w q g _) (grown_grow3 _ os _)
end Go.Proofs.Ytjmbhlhkjjinbaa