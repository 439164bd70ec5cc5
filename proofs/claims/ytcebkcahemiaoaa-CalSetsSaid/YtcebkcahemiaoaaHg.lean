/-
  slices.SortFunc over an own slice of structs without slices, ties as pdqsort leaves them: from the shelf's words to the own object's.
-/
import Derived.Test.YtcebkcahemiaoaaHe
import Derived.Test.YtcebkcahemiaoaaPq
namespace Go.Gw
open Go Go.RowKit Go.Pu Go.Sort Go.Proofs
variable {Dw : Prop}
set_option linter.unusedSimpArgs false
set_option linter.unusedVariables false
section
variable {α : Type} [GoT α] [Inhabited α] {P : Program} {f g : FuncId} {cb : Array Value} {B : Nat} {A : Nat → Prop} {w : World} {L : List Ob} {i : Nat} {e : TypeId} {v : Value}
omit [Inhabited α] in
theorem repL_enc {enc : α → List Value} (hrep : ∀ (A : Nat → Prop) (w : World) (cs : List Value) (x : α), GoT.rep A w cs x → cs = enc x) : ∀ {l : List α} {A : Nat → Prop} {w : World} {cs : List Value}, repL A w cs l → cs = (l.map enc).flatten
  | [], _, _, _, h => h
  | x :: l, A, w, cs, h => by
    obtain ⟨c1, c2, rfl, h1, h2⟩ := h
    rw [hrep _ _ _ _ h1, repL_enc hrep h2]
    simp
omit [Inhabited α] in
theorem enc_repL {enc : α → List Value} (hback : ∀ (A : Nat → Prop) (w : World) (x : α), GoT.rep A w (enc x) x) (A : Nat → Prop) (w : World) : ∀ l : List α, repL A w ((l.map enc).flatten) l
  | [] => rfl
  | x :: l => ⟨enc x, _, rfl, hback A w x, enc_repL hback A w l⟩
theorem Hp.sortFuncP {cmp : α → α → Int} {enc : α → List Value} {l r : List α} (hrep : ∀ (A : Nat → Prop) (w : World) (cs : List Value) (x : α), GoT.rep A w cs x → cs = enc x) (hback : ∀ (A : Nat → Prop) (w : World) (x : α), GoT.rep A w (enc x) x)
    (h0 : ∀ (p : Option Addr) (c : Nat) (w : World), Calls P f #[.slice p 0 c, .func (.func g) #[] cb] w fun e w' => e = .returned (.tuple #[]) ∧ w' = w)
    (h1 : ∀ (hk : ∀ x, (enc x).length = GoT.cells α) (hone : ∀ x, ∀ v ∈ enc x, v.oneCell' = true) (hO : SWO (ltOf cmp)) (blk off cap : Nat) (d : Array α) (w : World),
      CmpLays P g cb enc (GoT.cells α) cmp blk off d.size w → HoldsK enc (GoT.cells α) w blk off d → blk < w.heap.size → d.size < 4611686018427387904 →
      Calls P f #[.slice (some ⟨blk, off, none⟩) d.size cap, .func (.func g) #[] cb] w fun e w' => e = .returned (.tuple #[]) ∧ ∃ n os, w' = sortWorldK enc (GoT.cells α) w blk off n (pdq (ltOf cmp) d 0 d.size (Lib.bitLen d.size) true true) os)
    (hcl : ∀ (w1 : World), Tr True B A w A w1 → (∀ b, w1.heap.size ≤ b → A b) → ∀ (x y : α), Ret P g (#[.agg (enc x).toArray, .agg (enc y).toArray] ++ cb) w1 fun v w' => v = .int .i64 (cmp x y) ∧ Kp True w1 w')
    (hH : Hp B A w L) (hi : L[i]? = some (obS e v l)) (hB : B ≤ w.heap.size) (hA : ∀ b, w.heap.size ≤ b → A b) (hr : Pu.sortFuncP cmp l = some r) :
    Ret P f #[v, .func (.func g) #[] cb] w fun u w' => u = .tuple #[] ∧ Hp B A w' (L.set i (obS e v r)) ∧ Tr Dw B A w A w' := by
  unfold Pu.sortFuncP at hr
  split at hr
  case isFalse => cases hr
  rename_i hok
  obtain ⟨hlen0, hO⟩ := hok
  cases hr
  obtain ⟨hpm, _⟩ := pdqL_spec hO l
  have hrl : (pdqL cmp l).length = l.length := hpm.length_eq
  obtain ⟨fs, hp, hb, hset⟩ := hH.at hi
  by_cases hl0 : l = []
  · subst hl0
    have hv : ∃ p c, v = .slice p 0 c := by
      rcases hp with ⟨rfl, _, _⟩ | ⟨q, cap, cur, cs, rfl, _⟩
      · exact ⟨_, _, rfl⟩
      · exact ⟨_, _, rfl⟩
    obtain ⟨p, c, rfl⟩ := hv
    refine Calls.mono (h0 p c w) ?_
    rintro _ _ ⟨rfl, rfl⟩
    rw [List.eq_nil_of_length_eq_zero hrl]
    refine ⟨_, rfl, rfl, ?_, .refl hA⟩
    have : L.set i (obS (α := α) e (.slice p 0 c) []) = L := by
      apply List.ext_getElem?
      intro k
      rw [List.getElem?_set]
      split
      · rename_i hk
        subst hk
        split
        · exact hi.symm
        · rename_i hk2
          rw [List.getElem?_eq_none (by omega)] at hi
          cases hi
      · rfl
    rw [this]
    exact hH
  rcases hp with ⟨_, rfl, _⟩ | ⟨q, cap, cur, cs, rfl, rfl, h4, h5, h6, h7, h8, h9⟩
  · exact absurd rfl hl0
  have hq := (Array.getElem?_eq_some_iff.1 h4).1
  have hBq := hb q (by simp)
  have hk : ∀ x : α, (enc x).length = GoT.cells α := fun x => GoT.len (hback A w x)
  have hone : ∀ x : α, ∀ v ∈ enc x, v.oneCell' = true := fun x => GoT.one (hback A w x)
  have hmv : ∀ (Dx : Prop) (m : Nat) (dk : Array α) (os : Array Obj), Mv Dx B A w A (sortWorldK enc (GoT.cells α) w q 0 m dk os) (some q) := fun Dx m dk os => mv_sort enc _ w q m dk os hq ⟨hBq.1, hBq.2.2⟩ hA
  have hcmp : CmpLays P g cb enc (GoT.cells α) cmp q 0 l.toArray.size w := by
    intro m os dk _ x y
    have hm := hmv True m dk os
    refine Calls.mono (hcl _ (hm.tr hB) hm.new x y) ?_
    rintro _ w' ⟨_, rfl, rfl, hkp⟩
    exact ⟨rfl, hkp.eqn⟩
  have hfl : (flatK enc (GoT.cells α) l.toArray).toList = cs := by rw [flatK_list enc _ hk, repL_enc hrep h8]
  have hHolds : HoldsK enc (GoT.cells α) w q 0 l.toArray := by
    intro j hj
    have hj' : j < cs.length := by rw [← hfl, Array.length_toList]; exact hj
    have hcl : cs.length = l.length * GoT.cells α := h8.len
    constructor
    · have h10 : cur[j]? = cs[j]? := by
        rw [← h9, List.getElem?_take, if_pos (by omega), Array.getElem?_toList]
      simp only [World.cell?, h4, Nat.zero_add]
      rw [if_neg (by simp), h10, ← hfl, Array.getElem?_toList, Array.getElem?_eq_getElem hj, getElem!_pos (flatK enc (GoT.cells α) l.toArray) j hj]
      rfl
    · simp [World.frozen?, h4]
  have hsz : l.toArray.size = l.length := by simp
  have hcall := h1 hk hone hO q 0 cap l.toArray w hcmp hHolds hq (by rw [hsz]; exact hlen0)
  rw [hsz] at hcall
  refine Calls.mono hcall ?_
  rintro _ _ ⟨rfl, n, os, rfl⟩
  refine ⟨_, rfl, rfl, ?_⟩
  have hde : (pdqL cmp l) = (pdq (ltOf cmp) l.toArray 0 l.length (Lib.bitLen l.length) true true).toList := rfl
  rw [hde] at hrl ⊢
  generalize pdq (ltOf cmp) l.toArray 0 l.length (Lib.bitLen l.length) true true = d' at hrl
  have hd : d'.size = l.length := by simpa using hrl
  have hm := hmv Dw n d' os
  have hnew : (sortWorldK enc (GoT.cells α) w q 0 n d' os).heap[q]? = some (.cells (putCells id 0 (flatK enc (GoT.cells α) d') cur) e (0, 0)) := by
    unfold sortWorldK
    rw [heap_grow_old _ _ (by simpa [putRowK, putRow, mapBlock, Go.Sort.ahead] using hq)]
    simp only [putRowK, putRow, mapBlock, Go.Sort.ahead, Array.getElem?_modify, if_pos rfl, h4]
    rfl
  refine ⟨hset A _ (some q) (obS e (.slice (some ⟨q, 0, none⟩) l.length cap) d'.toList) [q] hm (fun k hk => by cases hk; simp) ?_ fun b hb' => ⟨.inl hb', (hb b hb').1, (hb b hb').2.2⟩, hm.tr hB⟩
  refine .inr ⟨q, cap, _, (d'.toList.map enc).flatten, by rw [hrl], rfl, hnew, by rw [hrl]; exact h5, h6, by simpa [putCells] using h7, enc_repL hback _ _ _, ?_⟩
  have hfs : (flatK enc (GoT.cells α) d').toList = (d'.toList.map enc).flatten := flatK_list enc _ hk d'
  have hfz : (flatK enc (GoT.cells α) d').size = l.length * GoT.cells α := by rw [size_flatK, hd]
  have hle : l.length * GoT.cells α ≤ cur.size := by rw [h7]; exact Nat.mul_le_mul_right _ h5
  have := putCells_take id (flatK enc (GoT.cells α) d').toList cur (by rw [Array.length_toList, hfz]; exact hle)
  rw [hrl]
  rw [Array.length_toList, hfz, List.map_id, Array.toArray_toList] at this
  rw [this, hfs]
end
end Go.Gw
