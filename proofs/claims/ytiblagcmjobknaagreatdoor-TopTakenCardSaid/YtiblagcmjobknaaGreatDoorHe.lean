import Derived.Test.YtiblagcmjobknaaGreatDoorGz
import Derived.Test.YtiblagcmjobknaaGreatDoorPr
import Derived.Shelf.SlSortCmp.NoneTotal
namespace Go.Gw
open Go Go.RowKit Go.Pu Go.Sort Go.Proofs
variable {Dw : Prop}
set_option linter.unusedSimpArgs false
set_option linter.unusedVariables false
theorem Kp.eqn {w w' : World} (h : Kp True w w') : ∃ q os, w' = grow (w.drewN q) os := by
 refine ⟨w'.drawn - w.drawn, w'.heap.extract w.heap.size w'.heap.size, ?_⟩
 have hd := h.dr trivial
 obtain ⟨hp, tp, dr, os, out⟩ := w'
 simp only at hd
 have e1 : tp = w.tape := h.tape
 have e2 : os = w.os := h.os
 have e3 : out = w.output := h.output
 subst e1 e2 e3
 have hs : w.heap.size ≤ hp.size := h.size
 have hh : hp = w.heap ++ hp.extract w.heap.size hp.size := by
  apply Array.ext
  ·simp; omega
  ·intro i h1 h2
   rw [Array.getElem_append]
   split
   ·rename_i h3
    have := h.block i h3
    simp only at this
    rw [Array.getElem?_eq_getElem h1, Array.getElem?_eq_getElem h3] at this
    exact Option.some.inj this
   ·simp
    congr 1
    omega
 unfold grow World.drewN
 simp only [World.mk.injEq, true_and, and_true]
 exact ⟨hh, by omega⟩
section
variable {β : Type} [Inhabited β]
theorem zgB (enc : β → List Value) (k : Nat) (hk : ∀ x, (enc x).length = k) : ∀ (ps : List β) (t : Nat), t < ps.length * k → (ps.map enc).flatten[t]? = some ((enc ps[t / k]!)[t % k]!)
 | [], t, h => by simp at h
 | p :: ps, t, h => by
  have k0 : 0 < k := by
   rcases Nat.eq_zero_or_pos k with h0 | h0
   ·subst h0; simp at h
   ·exact h0
  rw [List.map_cons, List.flatten_cons]
  by_cases ht : t < k
  ·rw [List.getElem?_append_left (by rw [hk]; exact ht), Nat.div_eq_of_lt ht, Nat.mod_eq_of_lt ht]
   rw [List.getElem?_eq_getElem (by rw [hk]; exact ht)]
   simp [hk, ht]
  ·rw [List.getElem?_append_right (by rw [hk]; omega), hk]
   have h1 : (p :: ps).length * k = ps.length * k + k := by rw [List.length_cons, Nat.succ_mul]
   rw [zgB enc k hk ps (t - k) (by omega)]
   have e1 : t / k = (t - k) / k + 1 := Nat.div_eq_sub_div k0 (by omega)
   have e2 : t % k = (t - k) % k := Nat.mod_eq_sub_mod (by omega)
   rw [e1, e2]
   simp
theorem zfA (enc : β → List Value) (k : Nat) (hk : ∀ x, (enc x).length = k) (d : Array β) : (flatK enc k d).toList = (d.toList.map enc).flatten := by
 have hl : (d.toList.map enc).flatten.length = d.size * k := by
  rw [List.length_flatten]
  have : (List.map List.length (d.toList.map enc)) = List.replicate d.size k := by
   rw [List.map_map]
   apply List.ext_getElem
   ·simp
   ·intro i h1 h2
    simp [hk]
  rw [this]
  simp
 apply List.ext_getElem?
 intro t
 by_cases ht : t < d.size * k
 ·rw [zgB enc k hk d.toList t (by simpa using ht)]
  have hs : t < (flatK enc k d).size := by simpa using ht
  rw [Array.getElem?_toList, Array.getElem?_eq_getElem hs, ← getElem!_pos (flatK enc k d) t hs, get_flatK enc k d t ht]
  congr 3
  by_cases h2 : t / k < d.size
  ·simp [h2]
  ·simp [h2]
 ·rw [List.getElem?_eq_none (by simp; omega), List.getElem?_eq_none (by omega)]
end
section
variable {α : Type} [GoT α] {P : Program} {f g : FuncId} {cb : Array Value} {B : Nat} {A : Nat → Prop} {w : World} {L : List Ob} {i : Nat} {e : TypeId} {v : Value}
abbrev Pr (A : Nat → Prop) (w : World) (l : List α) : Type := { p : List Value × α // GoT.rep A w p.1 p.2 ∧ p.2 ∈ l }
theorem zkp {A : Nat → Prop} {w : World} {l0 : List α} : ∀ {l : List α} {cs : List Value}, repL A w cs l → (∀ x ∈ l, x ∈ l0) → ∃ ps : List (Pr A w l0), ps.map (fun p => p.1.2) = l ∧ (ps.map fun p => p.1.1).flatten = cs
 | [], cs, h, _ => ⟨[], rfl, by have : cs = [] := h; rw [this]; rfl⟩
 | x :: l, cs, h, hm => by
  obtain ⟨c1, c2, rfl, h1, h2⟩ := h
  obtain ⟨ps, e1, e2⟩ := zkp h2 fun y hy => hm y (List.mem_cons_of_mem _ hy)
  exact ⟨⟨(c1, x), h1, hm x (List.mem_cons_self ..)⟩ :: ps, by simp [e1], by simp [e2]⟩
theorem zhD {A A1 : Nat → Prop} {w w1 : World} {l0 : List α} (hx : Ex A w A1 w1) : ∀ ps : List (Pr A w l0), repL A1 w1 ((ps.map fun p => p.1.1).flatten) (ps.map fun p => p.1.2)
 | [] => rfl
 | p :: ps => ⟨p.1.1, _, rfl, GoT.keep p.2.1 hx, zhD hx ps⟩
theorem zjy {A : Nat → Prop} {w : World} {cmp : α → α → Option Int} {l : List α} (ok : zdf cmp l) (d d' : List (Pr A w l)) (hl : d.map (fun p => p.1.2) = l) (hp : d'.Perm d) (hs : d'.Pairwise fun p q => ZI cmp q.1.2 p.1.2 = false) :
  d'.map (fun p => p.1.2) = l.mergeSort fun x y => !(ZI cmp y x) := by
 let γ := { x : α // x ∈ l }
 let G : Pr A w l → γ := fun p => ⟨p.1.2, p.2.2⟩
 let le : γ → γ → Bool := fun x y => !(ZI cmp y.1 x.1)
 have hle : ∀ (x y : γ), le x y = true ↔ ZI cmp y.1 x.1 = false := fun x y => by simp [le]
 have htr : ∀ a b c : γ, le a b = true → le b c = true → le a c = true := fun a b c h1 h2 => (hle a c).2 (ok.ntrans _ c.2 _ b.2 _ a.2 ((hle b c).1 h2) ((hle a b).1 h1))
 have hto : ∀ a b : γ, (le a b || le b a) = true := fun a b => by
  rw [Bool.or_eq_true]
  by_cases h : ZI cmp b.1 a.1 = false
  ·exact .inl ((hle a b).2 h)
  ·refine .inr ((hle b a).2 ?_)
   cases h2 : ZI cmp a.1 b.1 with
   | false => rfl
   | true =>
    have := ok.trans _ b.2 _ a.2 _ b.2 (by simpa using h) h2
    rw [ok.irrefl _ b.2] at this
    cases this
 have h1 : (d'.map G).Perm ((d.map G).mergeSort le) := (hp.map G).trans (List.mergeSort_perm _ _).symm
 have h2 : (d'.map G) = (d.map G).mergeSort le := by
  refine List.Perm.eq_of_pairwise (le := fun x y => le x y = true) ?_ ?_ ?_ h1
  ·intro a b _ _ ha hb
   exact Subtype.ext (ok.total _ a.2 _ b.2 ((hle b a).1 hb) ((hle a b).1 ha))
  ·rw [List.pairwise_map]
   exact hs.imp fun {p q} h => (hle (G p) (G q)).2 h
  ·exact List.pairwise_mergeSort htr hto _
 have h3 : d'.map (fun p => p.1.2) = (d'.map G).map (fun x => x.1) := by rw [List.map_map]; rfl
 rw [h3, h2, List.map_mergeSort (s := fun x y => !(ZI cmp y x)) (fun a _ b _ => rfl), List.map_map]
 have : d.map ((fun x : γ => x.1) ∘ G) = d.map fun p => p.1.2 := rfl
 rw [this, hl]
theorem zjP {β : Type} [Inhabited β] (enc : β → List Value) (k : Nat) (w : World) (g m : Nat) (dk : Array β) (os : Array Obj) (hg : g < w.heap.size) (b : Nat) (hb : b < w.heap.size) (hne : b ≠ g) : (sortWorldK enc k w g 0 m dk os).heap[b]? = w.heap[b]? := by
 unfold sortWorldK
 rw [heap_grow_old _ _ (by simpa [putRowK, putRow, mapBlock, Go.Sort.ahead] using hb)]
 simp only [putRowK, putRow, mapBlock, Go.Sort.ahead, Array.getElem?_modify]
 rw [if_neg (fun h => hne h.symm)]
theorem zlw {β : Type} [Inhabited β] (enc : β → List Value) (k : Nat) (w : World) (g m : Nat) (dk : Array β) (os : Array Obj) (hg : g < w.heap.size) (hB : B ≤ g ∧ ¬ A g) (hA : ∀ b, w.heap.size ≤ b → A b) : Mv Dw B A w A (sortWorldK enc k w g 0 m dk os) (some g) := by
 have hsz : w.heap.size ≤ (sortWorldK enc k w g 0 m dk os).heap.size := by simp [sortWorldK, putRowK, putRow, mapBlock, Go.Sort.ahead, grow]
 exact ⟨rfl, rfl, rfl, hsz, fun _ => Nat.le_add_right _ _, fun b hb hne => zjP enc k w g m dk os hg b hb (fun h => hne (by rw [h])), fun b hb => by cases hb; exact hB, fun _ h => h, fun _ _ h => h, fun b hb => hA b (Nat.le_trans hsz hb)⟩
theorem Hp.sortFuncK {cmp : α → α → Option Int} {l r : List α}
  (h0 : ∀ (p : Option Addr) (c : Nat) (w : World), Calls P f #[.slice p 0 c, .func (.func g) #[] cb] w fun e w' => e = .returned (.tuple #[]) ∧ w' = w)
  (h1 : ∀ {β : Type} [Inhabited β] (enc : β → List Value) (hk : ∀ x, (enc x).length = GoT.cells α) (hone : ∀ x, ∀ v ∈ enc x, v.oneCell' = true) (cf : β → β → Int) (hO : SWO (ltOf cf)) (blk off cap : Nat) (d : Array β) (w : World),
   CmpLays P g cb enc (GoT.cells α) cf blk off d.size w → HoldsK enc (GoT.cells α) w blk off d → blk < w.heap.size → d.size < 4611686018427387904 →
   Calls P f #[.slice (some ⟨blk, off, none⟩) d.size cap, .func (.func g) #[] cb] w fun e w' => e = .returned (.tuple #[]) ∧ ∃ d' n os, PermIn 0 d.size d d' ∧ SortedIn (ltOf cf) 0 d.size d' ∧ w' = sortWorldK enc (GoT.cells α) w blk off n d' os)
  (hcl : ∀ (w1 : World), Tr True B A w A w1 → (∀ b, w1.heap.size ≤ b → A b) → ∀ (x y : α) (cx cy : List Value) (c : Int), GoT.rep A w1 cx x → GoT.rep A w1 cy y → cmp x y = some c →
   Ret P g (#[.agg cx.toArray, .agg cy.toArray] ++ cb) w1 fun v w' => v = .int .i64 c ∧ Kp True w1 w')
  (hH : Hp B A w L) (hi : L[i]? = some (obS e v l)) (hB : B ≤ w.heap.size) (hA : ∀ b, w.heap.size ≤ b → A b) (hr : Qr cmp l = some r) :
  Ret P f #[v, .func (.func g) #[] cb] w fun u w' => u = .tuple #[] ∧ Hp B A w' (L.set i (obS e v r)) ∧ Tr Dw B A w A w' := by
 obtain ⟨ok, rfl⟩ := zdm hr
 obtain ⟨fs, hp, hb, hset⟩ := hH.at hi
 by_cases hl0 : l = []
 ·subst hl0
  have hv : ∃ p c, v = .slice p 0 c := by
   rcases hp with ⟨rfl, _, _⟩ | ⟨q, cap, cur, cs, rfl, _⟩
   ·exact ⟨_, _, rfl⟩
   ·exact ⟨_, _, rfl⟩
  obtain ⟨p, c, rfl⟩ := hv
  refine Calls.mono (h0 p c w) ?_
  rintro _ _ ⟨rfl, rfl⟩
  refine ⟨_, rfl, rfl, ?_, .refl hA⟩
  rw [List.mergeSort_nil]
  have : L.set i (obS (α := α) e (.slice p 0 c) []) = L := by
   apply List.ext_getElem?
   intro k
   rw [List.getElem?_set]
   split
   ·rename_i hk
    subst hk
    split
    ·exact hi.symm
    ·rename_i hk2
     rw [List.getElem?_eq_none (by omega)] at hi
     cases hi
   ·rfl
  rw [this]
  exact hH
 rcases hp with ⟨_, rfl, _⟩ | ⟨q, cap, cur, cs, rfl, rfl, h4, h5, h6, h7, h8, h9⟩
 ·exact absurd rfl hl0
 have hq := (Array.getElem?_eq_some_iff.1 h4).1
 have hBq := hb q (by simp)
 obtain ⟨ps, e1, e2⟩ := zkp (l0 := l) h8 fun x hx => hx
 have hps : ps.length = l.length := by have h := congrArg List.length e1; simpa using h
 have hpos : 0 < l.length := by cases l with
  | nil => exact absurd rfl hl0
  | cons x l => simp
 haveI : Inhabited (Pr A w l) := ⟨ps[0]'(by omega)⟩
 let enc : Pr A w l → List Value := fun p => p.1.1
 have hk : ∀ x : Pr A w l, (enc x).length = GoT.cells α := fun x => GoT.len x.2.1
 have hone : ∀ x : Pr A w l, ∀ v ∈ enc x, v.oneCell' = true := fun x => GoT.one x.2.1
 let cf : Pr A w l → Pr A w l → Int := fun x y => (cmp x.1.2 y.1.2).getD 0
 have hlt : ∀ x y : Pr A w l, ltOf cf x y = ZI cmp x.1.2 y.1.2 := by
  intro x y
  obtain ⟨c, hc⟩ := ok.says _ x.2.2 _ y.2.2
  simp [ltOf, cf, ZI, hc]
 have hO : SWO (ltOf cf) := by
  refine ⟨fun x => ?_, fun x y z h1 h2 => ?_, fun x y z h1 h2 => ?_⟩
  ·rw [hlt]; exact ok.irrefl _ x.2.2
  ·rw [hlt] at h1 h2 ⊢; exact ok.trans _ x.2.2 _ y.2.2 _ z.2.2 h1 h2
  ·rw [hlt] at h1 h2 ⊢; exact ok.ntrans _ x.2.2 _ y.2.2 _ z.2.2 h1 h2
 have hmv : ∀ (Dx : Prop) (m : Nat) (dk : Array (Pr A w l)) (os : Array Obj), Mv Dx B A w A (sortWorldK enc (GoT.cells α) w q 0 m dk os) (some q) := fun Dx m dk os => zlw enc _ w q m dk os hq ⟨hBq.1, hBq.2.2⟩ hA
 have hcmp : CmpLays P g cb enc (GoT.cells α) cf q 0 ps.toArray.size w := by
  intro m os dk _ x y
  obtain ⟨c, hc⟩ := ok.says _ x.2.2 _ y.2.2
  have hm := hmv True m dk os
  have := hcl _ (hm.tr hB) hm.new x.1.2 y.1.2 (enc x) (enc y) c (GoT.keep x.2.1 hm.ex) (GoT.keep y.2.1 hm.ex) hc
  refine Calls.mono this ?_
  rintro _ w' ⟨_, rfl, rfl, hkp⟩
  exact ⟨by simp [cf, hc], hkp.eqn⟩
 have hfl : (flatK enc (GoT.cells α) ps.toArray).toList = cs := by rw [zfA enc _ hk]; exact e2
 have hHolds : HoldsK enc (GoT.cells α) w q 0 ps.toArray := by
  intro j hj
  have hj' : j < cs.length := by rw [← hfl, Array.length_toList]; exact hj
  have hcl : cs.length = l.length * GoT.cells α := h8.len
  constructor
  ·have h10 : cur[j]? = cs[j]? := by
    rw [← h9, List.getElem?_take, if_pos (by omega), Array.getElem?_toList]
   simp only [World.cell?, h4, Nat.zero_add]
   rw [if_neg (by simp), h10, ← hfl, Array.getElem?_toList, Array.getElem?_eq_getElem hj, getElem!_pos (flatK enc (GoT.cells α) ps.toArray) j hj]
   rfl
  ·simp [World.frozen?, h4]
 have hsz : ps.toArray.size = l.length := by simpa using hps
 have hcall := h1 enc hk hone cf hO q 0 cap ps.toArray w hcmp hHolds hq (by rw [hsz]; exact ok.len)
 rw [hsz] at hcall
 refine Calls.mono hcall ?_
 rintro _ _ ⟨rfl, d', n, os, hperm, hsort, rfl⟩
 refine ⟨_, rfl, rfl, ?_⟩
 have hd : d'.size = l.length := by rw [hperm.1, hsz]
 have hpm : d'.toList.Perm ps := by
  have h := hperm.2.2
  have a1 : d'.extract 0 l.length = d' := by rw [← hd]; exact Array.extract_size
  have a2 : ps.toArray.extract 0 l.length = ps.toArray := by rw [← hsz]; exact Array.extract_size
  rw [a1, a2] at h
  simpa using h
 have hpw : d'.toList.Pairwise fun x y => ZI cmp y.1.2 x.1.2 = false := by
  rw [List.pairwise_iff_getElem]
  intro a b ha hb hab
  have ha' : a < d'.size := by simpa using ha
  have hb' : b < d'.size := by simpa using hb
  have := hsort a b (Nat.zero_le _) hab (by omega)
  rw [hlt, getElem!_pos d' a ha', getElem!_pos d' b hb'] at this
  simpa using this
 have hres := zjy ok ps d'.toList e1 hpm hpw
 rw [← hres]
 have hm := hmv Dw n d' os
 have hlen : (d'.toList.map fun p => p.1.2).length = l.length := by simp [hd]
 have hnew : (sortWorldK enc (GoT.cells α) w q 0 n d' os).heap[q]? = some (.cells (putCells id 0 (flatK enc (GoT.cells α) d') cur) e (0, 0)) := by
  unfold sortWorldK
  rw [heap_grow_old _ _ (by simpa [putRowK, putRow, mapBlock, Go.Sort.ahead] using hq)]
  simp only [putRowK, putRow, mapBlock, Go.Sort.ahead, Array.getElem?_modify, if_pos rfl, h4]
  rfl
 refine ⟨hset A _ (some q) (obS e (.slice (some ⟨q, 0, none⟩) l.length cap) (d'.toList.map fun p => p.1.2)) [q] hm (fun k hk => by cases hk; simp) ?_ fun b hb' => ⟨.inl hb', (hb b hb').1, (hb b hb').2.2⟩, hm.tr hB⟩
 refine .inr ⟨q, cap, _, (d'.toList.map fun p => p.1.1).flatten, by rw [hlen], rfl, hnew, by rw [hlen]; exact h5, h6, by simpa [putCells] using h7, zhD hm.ex _, ?_⟩
 have hfs : (flatK enc (GoT.cells α) d').toList = (d'.toList.map fun p => p.1.1).flatten := zfA enc _ hk d'
 have hfz : (flatK enc (GoT.cells α) d').size = l.length * GoT.cells α := by rw [size_flatK, hd]
 have hle : l.length * GoT.cells α ≤ cur.size := by rw [h7]; exact Nat.mul_le_mul_right _ h5
 have := zdP id (flatK enc (GoT.cells α) d').toList cur (by rw [Array.length_toList, hfz]; exact hle)
 rw [hlen]
 rw [Array.length_toList, hfz, List.map_id, Array.toArray_toList] at this
 rw [this, hfs]
end
section
variable {P : Program} {f g : FuncId} {cb : Array Value} {B : Nat} {A : Nat → Prop} {w : World} {L : List Ob} {i : Nat} {e : TypeId} {v : Value}
theorem zim {cmp : Int → Int → Option Int} {l : List Int} (ok : zdf cmp l) (d d' : List { x : Int // x ∈ l }) (hl : d.map (fun p => p.1) = l) (hp : d'.Perm d) (hs : d'.Pairwise fun p q => ZI cmp q.1 p.1 = false) :
  d'.map (fun p => p.1) = l.mergeSort fun x y => !(ZI cmp y x) := by
 let le : { x : Int // x ∈ l } → { x : Int // x ∈ l } → Bool := fun x y => !(ZI cmp y.1 x.1)
 have hle : ∀ x y, le x y = true ↔ ZI cmp y.1 x.1 = false := fun x y => by simp [le]
 have htr : ∀ a b c, le a b = true → le b c = true → le a c = true := fun a b c h1 h2 => (hle a c).2 (ok.ntrans _ c.2 _ b.2 _ a.2 ((hle b c).1 h2) ((hle a b).1 h1))
 have hto : ∀ a b, (le a b || le b a) = true := fun a b => by
  rw [Bool.or_eq_true]
  by_cases h : ZI cmp b.1 a.1 = false
  ·exact .inl ((hle a b).2 h)
  ·refine .inr ((hle b a).2 ?_)
   cases h2 : ZI cmp a.1 b.1 with
   | false => rfl
   | true =>
    have := ok.trans _ b.2 _ a.2 _ b.2 (by simpa using h) h2
    rw [ok.irrefl _ b.2] at this
    cases this
 have h2 : d' = d.mergeSort le := by
  refine List.Perm.eq_of_pairwise (le := fun x y => le x y = true) ?_ ?_ ?_ (hp.trans (List.mergeSort_perm _ _).symm)
  ·intro a b _ _ ha hb
   exact Subtype.ext (ok.total _ a.2 _ b.2 ((hle b a).1 hb) ((hle a b).1 ha))
  ·exact hs.imp fun {p q} h => (hle p q).2 h
  ·exact List.pairwise_mergeSort htr hto _
 rw [h2, List.map_mergeSort (s := fun x y => !(ZI cmp y x)) (fun a _ b _ => rfl), hl]
theorem zjE {β : Type} [Inhabited β] (enc : β → Value) (w : World) (g m : Nat) (dk : Array β) (os : Array Obj) (hg : g < w.heap.size) (b : Nat) (hb : b < w.heap.size) (hne : b ≠ g) : (sortWorld enc w g 0 m dk os).heap[b]? = w.heap[b]? := by
 unfold sortWorld
 rw [heap_grow_old _ _ (by simpa [putRow, mapBlock, Go.Sort.ahead] using hb)]
 simp only [putRow, mapBlock, Go.Sort.ahead, Array.getElem?_modify]
 rw [if_neg (fun h => hne h.symm)]
theorem zkX {β : Type} [Inhabited β] (enc : β → Value) (w : World) (g m : Nat) (dk : Array β) (os : Array Obj) (hg : g < w.heap.size) (hB : B ≤ g ∧ ¬ A g) (hA : ∀ b, w.heap.size ≤ b → A b) : Mv Dw B A w A (sortWorld enc w g 0 m dk os) (some g) := by
 have hsz : w.heap.size ≤ (sortWorld enc w g 0 m dk os).heap.size := by simp [sortWorld, putRow, mapBlock, Go.Sort.ahead, grow]
 exact ⟨rfl, rfl, rfl, hsz, fun _ => Nat.le_add_right _ _, fun b hb hne => zjE enc w g m dk os hg b hb (fun h => hne (by rw [h])), fun b hb => by cases hb; exact hB, fun _ h => h, fun _ _ h => h, fun b hb => hA b (Nat.le_trans hsz hb)⟩
theorem Hp.sortFunc1 {cmp : Int → Int → Option Int} {l r : List Int}
  (h0 : ∀ (p : Option Addr) (c : Nat) (w : World), Calls P f #[.slice p 0 c, .func (.func g) #[] cb] w fun e w' => e = .returned (.tuple #[]) ∧ w' = w)
  (h1 : ∀ {β : Type} [Inhabited β] (enc : β → Value) (hone : OneCell enc) (cf : β → β → Int) (hO : SWO (ltOf cf)) (blk off cap : Nat) (d : Array β) (w : World),
   CmpLays1 P g cb enc cf blk off d.size w → Holds enc w blk off d → blk < w.heap.size → d.size < 4611686018427387904 →
   Calls P f #[.slice (some ⟨blk, off, none⟩) d.size cap, .func (.func g) #[] cb] w fun e w' => e = .returned (.tuple #[]) ∧ ∃ d' n os, PermIn 0 d.size d d' ∧ SortedIn (ltOf cf) 0 d.size d' ∧ w' = sortWorld enc w blk off n d' os)
  (hcl : ∀ (w1 : World), Tr True B A w A w1 → (∀ b, w1.heap.size ≤ b → A b) → ∀ (x y c : Int), cmp x y = some c → Ret P g (#[.int .i64 x, .int .i64 y] ++ cb) w1 fun v w' => v = .int .i64 c ∧ Kp True w1 w')
  (hH : Hp B A w L) (hi : L[i]? = some (obS e v l)) (hB : B ≤ w.heap.size) (hA : ∀ b, w.heap.size ≤ b → A b) (hr : Qr cmp l = some r) :
  Ret P f #[v, .func (.func g) #[] cb] w fun u w' => u = .tuple #[] ∧ Hp B A w' (L.set i (obS e v r)) ∧ Tr Dw B A w A w' := by
 obtain ⟨ok, rfl⟩ := zdm hr
 obtain ⟨fs, hp, hb, hset⟩ := hH.at hi
 by_cases hl0 : l = []
 ·subst hl0
  have hv : ∃ p c, v = .slice p 0 c := by
   rcases hp with ⟨rfl, _, _⟩ | ⟨q, cap, cur, cs, rfl, _⟩
   ·exact ⟨_, _, rfl⟩
   ·exact ⟨_, _, rfl⟩
  obtain ⟨p, c, rfl⟩ := hv
  refine Calls.mono (h0 p c w) ?_
  rintro _ _ ⟨rfl, rfl⟩
  refine ⟨_, rfl, rfl, ?_, .refl hA⟩
  rw [List.mergeSort_nil]
  have : L.set i (obS (α := Int) e (.slice p 0 c) []) = L := by
   apply List.ext_getElem?
   intro k
   rw [List.getElem?_set]
   split
   ·rename_i hk
    subst hk
    split
    ·exact hi.symm
    ·rename_i hk2
     rw [List.getElem?_eq_none (by omega)] at hi
     cases hi
   ·rfl
  rw [this]
  exact hH
 rcases hp with ⟨_, rfl, _⟩ | ⟨q, cap, cur, cs, rfl, rfl, h4, h5, h6, h7, h8, h9⟩
 ·exact absurd rfl hl0
 have hc1 : GoT.cells Int = 1 := rfl
 rw [hc1, Nat.mul_one] at h7 h9
 have hcs := zdy.1 h8
 have hq := (Array.getElem?_eq_some_iff.1 h4).1
 have hBq := hb q (by simp)
 have hpos : 0 < l.length := by cases l with
  | nil => exact absurd rfl hl0
  | cons x l => simp
 haveI : Inhabited { x : Int // x ∈ l } := ⟨⟨l[0], List.getElem_mem hpos⟩⟩
 let enc : { x : Int // x ∈ l } → Value := fun p => .int .i64 p.1
 have hone : OneCell enc := fun _ => rfl
 let cf : { x : Int // x ∈ l } → { x : Int // x ∈ l } → Int := fun x y => (cmp x.1 y.1).getD 0
 have hlt : ∀ x y, ltOf cf x y = ZI cmp x.1 y.1 := by
  intro x y
  obtain ⟨c, hc⟩ := ok.says _ x.2 _ y.2
  simp [ltOf, cf, ZI, hc]
 have hO : SWO (ltOf cf) := by
  refine ⟨fun x => ?_, fun x y z h1 h2 => ?_, fun x y z h1 h2 => ?_⟩
  ·rw [hlt]; exact ok.irrefl _ x.2
  ·rw [hlt] at h1 h2 ⊢; exact ok.trans _ x.2 _ y.2 _ z.2 h1 h2
  ·rw [hlt] at h1 h2 ⊢; exact ok.ntrans _ x.2 _ y.2 _ z.2 h1 h2
 have hmv : ∀ (Dx : Prop) (m : Nat) (dk : Array { x : Int // x ∈ l }) (os : Array Obj), Mv Dx B A w A (sortWorld enc w q 0 m dk os) (some q) := fun Dx m dk os => zkX enc w q m dk os hq ⟨hBq.1, hBq.2.2⟩ hA
 have hps : l.attach.map (fun p => p.1) = l := List.attach_map_subtype_val l
 have hcmp : CmpLays1 P g cb enc cf q 0 l.attach.toArray.size w := by
  intro m os dk _ x y
  obtain ⟨c, hc⟩ := ok.says _ x.2 _ y.2
  have hm := hmv True m dk os
  have := hcl _ (hm.tr hB) hm.new x.1 y.1 c hc
  refine Calls.mono this ?_
  rintro _ w' ⟨_, rfl, rfl, hkp⟩
  exact ⟨by simp [cf, hc], hkp.eqn⟩
 have hHolds : Holds enc w q 0 l.attach.toArray := by
  intro j hj
  simp at hj
  constructor
  ·simp only [World.cell?, h4, Nat.zero_add]
   have : (cur.toList.take l.length)[j]? = (l.map (Value.int .i64))[j]? := by rw [h9, hcs]
   rw [List.getElem?_take, if_pos hj, List.getElem?_map, List.getElem?_eq_getElem hj] at this
   simpa [hj, enc] using this
  ·simp [World.frozen?, h4]
 have hsz : l.attach.toArray.size = l.length := by simp
 have hcall := h1 enc hone cf hO q 0 cap l.attach.toArray w hcmp hHolds hq (by rw [hsz]; exact ok.len)
 rw [hsz] at hcall
 refine Calls.mono hcall ?_
 rintro _ _ ⟨rfl, d', n, os, hperm, hsort, rfl⟩
 refine ⟨_, rfl, rfl, ?_⟩
 have hd : d'.size = l.length := by rw [hperm.1, hsz]
 have hpm : d'.toList.Perm l.attach := by
  have h := hperm.2.2
  have a1 : d'.extract 0 l.length = d' := by rw [← hd]; exact Array.extract_size
  have a2 : l.attach.toArray.extract 0 l.length = l.attach.toArray := by rw [← hsz]; exact Array.extract_size
  rw [a1, a2] at h
  simpa using h
 have hpw : d'.toList.Pairwise fun x y => ZI cmp y.1 x.1 = false := by
  rw [List.pairwise_iff_getElem]
  intro a b ha hb hab
  have ha' : a < d'.size := by simpa using ha
  have hb' : b < d'.size := by simpa using hb
  have := hsort a b (Nat.zero_le _) hab (by omega)
  rw [hlt, getElem!_pos d' a ha', getElem!_pos d' b hb'] at this
  simpa using this
 have hres := zim ok l.attach d'.toList hps hpm hpw
 rw [← hres]
 have hm := hmv Dw n d' os
 have hlen : (d'.toList.map fun p => p.1).length = l.length := by simp [hd]
 have hnew : (sortWorld enc w q 0 n d' os).heap[q]? = some (.cells (putCells enc 0 d' cur) e (0, 0)) := by
  unfold sortWorld
  rw [heap_grow_old _ _ (by simpa [putRow, mapBlock, Go.Sort.ahead] using hq)]
  simp only [putRow, mapBlock, Go.Sort.ahead, Array.getElem?_modify, if_pos rfl, h4]
  rfl
 refine ⟨hset A _ (some q) (obS e (.slice (some ⟨q, 0, none⟩) l.length cap) (d'.toList.map fun p => p.1)) [q] hm (fun k hk => by cases hk; simp) ?_ fun b hb' => ⟨.inl hb', (hb b hb').1, (hb b hb').2.2⟩, hm.tr hB⟩
 refine .inr ⟨q, cap, _, (d'.toList.map fun p => p.1).map (Value.int .i64), by rw [hlen], rfl, hnew, by rw [hlen]; exact h5, h6, by rw [hc1, Nat.mul_one]; simpa [putCells] using h7, zdy.2 rfl, ?_⟩
 have := zdP enc d'.toList cur (by rw [Array.length_toList, hd, h7]; exact h5)
 rw [hlen, hc1, Nat.mul_one]
 rw [Array.length_toList, hd, Array.toArray_toList] at this
 rw [this, List.map_map]
 rfl
end
end Go.Gw
