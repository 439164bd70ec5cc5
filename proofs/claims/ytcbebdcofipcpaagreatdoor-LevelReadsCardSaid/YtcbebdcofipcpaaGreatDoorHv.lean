/-
  Own slices whose elements hold slices of the call's own: a row of raw elements, and behind each of them what it holds.
-/
import Derived.Test.YtcbebdcofipcpaaGreatDoorGy
import Derived.Test.YtcbebdcofipcpaaGreatDoorGx
namespace Go.Gw
open Go Go.RowKit Go.Pu
variable {Dw : Prop}
set_option linter.unusedSimpArgs false
set_option linter.unusedVariables false
set_option linter.unusedSectionVars false

section
variable {ρ γ : Type} [GoT ρ] (f : ρ → γ → Ob)
def gsZ (ys : List ρ) (l : List γ) : List Ob := List.zipWith f ys l
def obY (ys : List ρ) (l : List γ) : Ob := obE (fun (_ : Unit) => gsZ f ys l)
/-- the same without the one at k -/
def obYX (ys : List ρ) (l : List γ) (k : Nat) : Ob := obE (fun (_ : Unit) => (gsZ f ys l).eraseIdx k)
def gsL (e : TypeId) (v : Value) (l : List γ) (ys : List ρ) : List Ob := obQ (ys.length = l.length) :: obS e v ys :: gsZ f ys l
def obGS (e : TypeId) (v : Value) (l : List γ) : Ob := obE (gsL f e v l)
end

/-- what a raw element and the things behind it are together -/
class Beh {ρ γ : Type} [GoT ρ] [GoT γ] (f : ρ → γ → Ob) : Prop where
  cells : GoT.cells ρ = GoT.cells γ
  rd : ∀ {A A1 : Nat → Prop} {w : World} {fb : List Nat} {cs : List Value} {y : ρ} {x : γ}, GoT.rep A1 w cs y → (f y x).P fb A w → (∀ k, A k → A1 k) → (∀ b ∈ fb, A1 b) → GoT.rep A1 w cs x

theorem OwP.sl {α : Type} [GoT α] {e : TypeId} {A A1 : Nat → Prop} {w : World} {v : Value} {l : List α} {f : List Nat} (h : OwP e A w v l f) (hs : ∀ k, A k → A1 k) (hb : ∀ b ∈ f, A1 b) : Sl A1 w v l := by
  rcases h with ⟨rfl, rfl, _⟩ | ⟨g, cap, cur, cs, rfl, rfl, h4, h5, h6, h7, h8, h9⟩
  · exact Sl.nil
  · refine .inr ⟨g, 0, cap, cs, rfl, hb g (by simp), (Array.getElem?_eq_some_iff.1 h4).1, h5, h6, h8.keep (.sub fun k _ hk => hs k hk), ?_⟩
    intro j u hj
    rw [← h9] at hj
    rw [List.getElem?_take] at hj
    split at hj
    · simp only [World.cell?, h4, Nat.zero_add]
      simpa using hj
    · cases hj

section
variable {B : Nat} {A A1 : Nat → Prop} {w w1 : World} {L M : List Ob} {i k : Nat} {ρ γ : Type} [GoT ρ] [GoT γ] {f : ρ → γ → Ob} {e : TypeId} {v u : Value} {l r : List γ} {ys : List ρ} {c c' : γ} {y y' : ρ} {ix : Int}

theorem gsIdx (hx : idx l ix = some c) (hl : ys.length = l.length) : ∃ y, idx ys ix = some y := by
  obtain ⟨h0, h1, _⟩ := idx_some hx
  unfold idx
  rw [if_pos h0]
  exact ⟨_, List.getElem?_eq_getElem (by omega)⟩

theorem Hp.gsOpen (h : Hp B A w L) (hi : L[i]? = some (obGS f e v l)) : ∃ ys : List ρ, ys.length = l.length ∧ Hp B A w (obS e v ys :: obY f ys l :: L.eraseIdx i) := by
  obtain ⟨ys, h2⟩ := Hp.open (h.front hi)
  have hl : ys.length = l.length := by
    obtain ⟨_, ⟨_, hr⟩, _⟩ := h2.at (i := 0) rfl
    exact hr
  refine ⟨ys, hl, ?_⟩
  have h3 := h2.drop (i := 0) rfl
  have h4 : Hp B A w (gsZ f ys l ++ (obS e v ys :: L.eraseIdx i)) := by
    refine h3.perm ?_
    show (obS e v ys :: gsZ f ys l ++ L.eraseIdx i).Perm _
    exact List.perm_middle.symm
  exact (Hp.pack (F := fun (_ : Unit) => gsZ f ys l) () h4).perm (.swap _ _ _)

theorem Hp.gsPack (h : Hp B A w (obS e v ys :: obY f ys l :: L)) (hl : ys.length = l.length) : Hp B A w (obGS f e v l :: L) := by
  obtain ⟨_, h2⟩ := Hp.open (h.perm (.swap _ _ _))
  refine Hp.pack (F := gsL f e v l) ys ?_
  have h3 : Hp B A w (obS e v ys :: gsZ f ys l ++ L) := h2.perm List.perm_middle
  exact h3.free (O' := obQ (ys.length = l.length)) ⟨rfl, hl⟩

theorem gsZ_at (hk : l[k]? = some c) (hy : ys[k]? = some y) : (gsZ f ys l)[k]? = some (f y c) := by
  unfold gsZ
  rw [List.getElem?_zipWith, hk, hy]

/-- the one at a place apart -/
theorem Hp.gsTake (h : Hp B A w L) (hi : L[i]? = some (obY f ys l)) (hx : idx l ix = some c) (hy : idx ys ix = some y) : Hp B A w (f y c :: L.set i (obYX f ys l ix.toNat)) := by
  obtain ⟨_, _, hx⟩ := idx_some hx
  obtain ⟨_, _, hy⟩ := idx_some hy
  obtain ⟨_, h2⟩ := Hp.open (h.front hi)
  have hz := gsZ_at (f := f) hx hy
  have h3 : Hp B A w ((gsZ f ys l).eraseIdx ix.toNat ++ (f y c :: L.eraseIdx i)) := by
    refine h2.perm ?_
    refine List.Perm.trans (List.Perm.append_right _ (perm_take hz)) ?_
    exact List.perm_middle.symm
  have h4 := Hp.pack (F := fun (_ : Unit) => (gsZ f ys l).eraseIdx ix.toNat) () h3
  refine h4.perm ?_
  exact (List.Perm.swap _ _ _).trans ((perm_set hi).cons _)

theorem gsZ_set (hk : k < l.length) (hl : ys.length = l.length) : (gsZ f (ys.set k y) (l.set k c')).eraseIdx k = (gsZ f ys l).eraseIdx k := by
  unfold gsZ
  apply List.ext_getElem?
  intro j
  simp only [List.getElem?_eraseIdx, List.getElem?_zipWith]
  split
  · rw [List.getElem?_set_ne (by omega), List.getElem?_set_ne (by omega)]
  · rw [List.getElem?_set_ne (by omega), List.getElem?_set_ne (by omega)]

theorem Hp.gsClose (h : Hp B A w (obS e v (ys.set k y) :: f y c' :: obYX f ys l k :: L)) (hl : ys.length = l.length) (hk : k < l.length) : Hp B A w (obGS f e v (l.set k c') :: L) := by
  have h1 : Hp B A w (obYX f ys l k :: f y c' :: obS e v (ys.set k y) :: L) := by
    refine h.perm ?_
    refine (List.Perm.swap _ _ _).trans ?_
    refine ((List.Perm.swap _ _ _).cons _).trans ?_
    exact .swap _ _ _
  obtain ⟨_, h2⟩ := Hp.open h1
  have hz := gsZ_at (f := f) (k := k) (ys := ys.set k y) (l := l.set k c') (c := c') (y := y) (List.getElem?_set_self hk) (List.getElem?_set_self (by omega))
  have h3 : Hp B A w (gsZ f (ys.set k y) (l.set k c') ++ (obS e v (ys.set k y) :: L)) := by
    refine h2.perm ?_
    rw [← gsZ_set (c' := c') (y := y) hk hl]
    refine List.perm_middle.trans ?_
    exact List.Perm.append_right _ (perm_take hz).symm
  have h4 := Hp.pack (F := fun (_ : Unit) => gsZ f (ys.set k y) (l.set k c')) () h3
  exact Hp.gsPack (h4.perm (.swap _ _ _)) (by rw [List.length_set, List.length_set]; exact hl)

theorem set_same {V : Type} {l : List V} {k : Nat} {x : V} (h : l[k]? = some x) : l.set k x = l := by
  apply List.ext_getElem?
  intro m
  by_cases hm : k = m
  · subst hm; rw [List.getElem?_set_self (List.getElem?_eq_some_iff.1 h).1, h]
  · rw [List.getElem?_set_ne hm]

theorem repL_gs [Beh f] {fs : List Ob} (hs : ∀ k, A k → A1 k) : ∀ {ys : List ρ} {l : List γ} {cs : List Value} {U : List Nat}, repL A1 w cs ys → ys.length = l.length → Sp A w (gsZ f ys l) U → (∀ b ∈ U, A1 b) → repL A1 w cs l
  | [], [], _, _, h, _, _, _ => h
  | y :: ys, c :: l, _, U, ⟨c1, c2, he, h1, h2⟩, hl, hsp, hU => by
    obtain ⟨fb, g, rfl, hd, hp, hs2⟩ := hsp
    exact ⟨c1, c2, he, Beh.rd (f := f) h1 hp hs fun b hb => hU b (List.mem_append_left _ hb), repL_gs (fs := fs) hs h2 (by simpa using hl) hs2 fun b hb => hU b (List.mem_append_right _ hb)⟩

theorem gs_sl [Beh f] {U : List Nat} (h : (obGS f e v l).P U A w) (hs : ∀ k, A k → A1 k) (hU : ∀ b ∈ U, A1 b) : Sl A1 w v l := by
  obtain ⟨ys, f1, g1, rfl, _, ⟨rfl, hl⟩, f2, g2, rfl, _, hp, hz⟩ := h
  have hU1 : ∀ b ∈ f2, A1 b := fun b hb => hU b (by simp [hb])
  have hU2 : ∀ b ∈ g2, A1 b := fun b hb => hU b (by simp [hb])
  rcases OwP.sl hp hs hU1 with ⟨a, cap, rfl, h3, h4, h5⟩ | ⟨b, off, cap, cs, rfl, h3, h4, h5, h6, h7, h8⟩
  · refine .inl ⟨a, cap, rfl, ?_, h4, h5⟩
    subst h3
    exact List.length_eq_zero_iff.1 (by simpa using hl.symm)
  · exact .inr ⟨b, off, cap, cs, by rw [hl], h3, h4, by omega, h6, repL_gs (fs := []) (f := f) hs h7 hl hz hU2, h8⟩

/-- read as any slice -/
theorem Hp.anyGS [Beh f] (h : Hp B A w L) (hi : L[i]? = some (obGS f e v l)) : Sl (fun _ => True) w v l := by
  obtain ⟨_, hp, _⟩ := h.at hi
  exact gs_sl hp (fun _ _ => trivial) fun _ _ => trivial
theorem Hp.formGS [Beh f] (h : Hp B A w L) (hi : L[i]? = some (obGS f e v l)) : ∃ a cap, v = .slice a l.length cap ∧ l.length ≤ maxLen := (h.anyGS hi).form
theorem Hp.leGS [Beh f] (h : Hp B A w L) (hi : L[i]? = some (obGS f e v l)) : l.length ≤ maxLen := (h.anyGS hi).le
theorem Hp.freezeGS [Beh f] (h : Hp B A w L) (hi : L[i]? = some (obGS f e v l)) (hA : ∀ b, w.heap.size ≤ b → A b) : ∃ A1 : Nat → Prop, Tr Dw B A w A1 w ∧ Sl A1 w v l ∧ Hp B A1 w (L.eraseIdx i) := by
  obtain ⟨A1, fb, hp, hf, hs, ht, hh⟩ := h.frz hi hA
  exact ⟨A1, ht, gs_sl hp hs fun b hb => (hf b hb).1, hh⟩
theorem Hp.addNilGS (h : Hp B A w L) : Hp B A w (obGS f e (.slice none 0 0) ([] : List γ) :: L) := by
  have h1 := Hp.pack (F := fun (_ : Unit) => gsZ f [] []) () (L := obS (α := ρ) e (.slice none 0 0) [] :: L) h.addNil
  exact Hp.gsPack (h1.perm (.swap _ _ _)) rfl
theorem El.sl_at {b off : Nat} {x : γ} (h : Sl (fun _ => True) w v l) (hx : idx l ix = some x) (hloc : Loc v b off ix (GoT.cells γ)) : El (fun _ => True) w b off x := by
  obtain ⟨h0, h1, h2⟩ := idx_some hx
  obtain ⟨⟨len, cap0, rfl⟩, rfl⟩ := hloc
  rcases h with ⟨a, c, hv, hl, _⟩ | ⟨b', off', cap', cs', hv, hb', hlt', hlc', hcm', hrep', hat'⟩
  · rw [hl] at h2; simp at h2
  simp only [Value.slice.injEq, Option.some.injEq, Addr.mk.injEq, and_true] at hv
  obtain ⟨⟨rfl, rfl⟩, _, _⟩ := hv
  obtain ⟨c1, c2, c3, rfl, hl, hr⟩ := hrep'.at h2
  refine ⟨trivial, hlt', c2, hr, ?_⟩
  rw [← hl]
  simpa using hat'.right.left
end

section steps
variable {P : Program} {n : Fr} {ops : Array Oper} {Q : Exit → Act → World → Prop} {E : Env} {w : World} {rest : List Oper} {v u : Value} {d : Nat} {W : World → Prop} {QA : Act → Prop}
variable {ty t e : TypeId} {pos : String} {af : Array Edge} {x y z : Operand} {A : Nat → Prop} {B : Nat} {L : List Ob} {i : Nat} {ρ γ : Type} [GoT ρ] [GoT γ] {f : ρ → γ → Ob} {l m r : List γ}

theorem V_indexAddrGS [Beh f] {k : IntKind} {ix : Int} {el : γ} (hH : Hp B A w L) (hi : L[i]? = some (obGS f e v l)) (hidx : idx l ix = some el) (ht : P.underlying t = some (.slice e)) (hsz : ∀ w, (Go.sizeOf e).run P w = .ok (GoT.cells ρ) w)
    (hx : ev E x = some v) (hy : ev E y = some (.int k ix)) (hn : Nat.blt d n.sz = true) (h : ∀ b off, El (fun _ => True) w b off el → Loc v b off ix (GoT.cells γ) → V P n ops Q rest ((d, .pointer (some ⟨b, off, none⟩)) :: E) w) :
    V P n ops Q (⟨some d, .indexAddr t x y, ty, pos, af, none⟩ :: rest) E w := by
  obtain ⟨ys, hl, h2⟩ := hH.gsOpen hi
  obtain ⟨p, hp⟩ := gsIdx hidx hl
  have hc := Beh.cells (f := f)
  exact V_indexAddrH (α := ρ) h2 (i := 0) rfl hp ht hsz hx hy hn fun b off he hloc => h b off (El.sl_at (hH.anyGS hi) hidx (hc ▸ hloc)) (hc ▸ hloc)
theorem VQ_indexAddrGS [Beh f] {k : IntKind} {ix : Int} {el : γ} (hH : Hp B A w L) (hi : L[i]? = some (obGS f e v l)) (hidx : idx l ix = some el) (ht : P.underlying t = some (.slice e)) (hsz : ∀ w, (Go.sizeOf e).run P w = .ok (GoT.cells ρ) w)
    (hx : ev E x = some v) (hy : ev E y = some (.int k ix)) (hn : Nat.blt d n.sz = true) (h : ∀ b off, El (fun _ => True) w b off el → Loc v b off ix (GoT.cells γ) → VQ P n ops W QA rest ((d, .pointer (some ⟨b, off, none⟩)) :: E)) :
    VQ P n ops W QA (⟨some d, .indexAddr t x y, ty, pos, af, none⟩ :: rest) E := by
  obtain ⟨ys, hl, h2⟩ := hH.gsOpen hi
  obtain ⟨p, hp⟩ := gsIdx hidx hl
  have hc := Beh.cells (f := f)
  exact VQ_indexAddrH (α := ρ) h2 (i := 0) rfl hp ht hsz hx hy hn fun b off he hloc => h b off (El.sl_at (hH.anyGS hi) hidx (hc ▸ hloc)) (hc ▸ hloc)

/-- elements that hold nothing of the call's own -/
def bare (f : ρ → γ → Ob) (ys : List ρ) (m : List γ) : Prop := ys.length = m.length ∧ ∀ (A : Nat → Prop) (w : World) (y : ρ) (x : γ), (y, x) ∈ ys.zip m → (f y x).P [] A w
theorem Hp.addBare {ys : List ρ} {m : List γ} (h : Hp B A w L) (hb : ∀ (y : ρ) (x : γ), (y, x) ∈ ys.zip m → (f y x).P [] A w) : Hp B A w (gsZ f ys m ++ L) := by
  induction ys generalizing m with
  | nil => exact h
  | cons y ys ih =>
    cases m with
    | nil => exact h
    | cons x m => exact (ih (m := m) fun y' x' h' => hb y' x' (by simp [h'])).free (O' := f y x) (hb y x (by simp))

theorem V_appendGS {lim bytes : Nat} {ti : TypeInfo} {zv : Value} {zs : List ρ} (hH : Hp B A w L) (hi : L[i]? = some (obGS f e v l)) (hm : Sl A w u zs) (hbr : bare f zs m) (hr : appendL lim l m = some r) (ht : P.underlying t = some (.slice e)) (hti : P.info? e = some ti) (hz : ti.zero = some zv)
    (hsize : ti.size = GoT.cells ρ) (hby : ti.bytes = bytes) (hzs : zv.cells.size = GoT.cells ρ) (hsz : GoT.cells ρ ≠ 0) (hlim : lim * bytes ≤ 140737488355328) (hlm : lim ≤ maxLen) (hB : B ≤ w.heap.size) (hA : ∀ b, w.heap.size ≤ b → A b)
    (hx : ev E x = some v) (hy : ev E y = some u) (hn : Nat.blt d n.sz = true)
    (h : ∀ v' w1 A1, Hp B A1 w1 (obGS f e v' r :: L.eraseIdx i) → Tr Dw B A w A1 w1 → V P n ops Q rest ((d, v') :: E) w1) :
    V P n ops Q (⟨some d, .call ⟨.builtin .append, #[x, y], #[t, t]⟩, ty, pos, af, none⟩ :: rest) E w := by
  obtain ⟨ys, hl, h2⟩ := hH.gsOpen hi
  obtain ⟨h3, rfl⟩ := appendL_some hr
  have hr2 : appendL lim ys zs = some (ys ++ zs) := by unfold appendL; rw [if_pos (by rw [hl, hbr.1]; exact h3)]
  refine V_appendH h2 (i := 0) rfl hm hr2 ht hti hz hsize hby hzs hsz hlim hlm hB hA hx hy hn fun v' w1 A1 h4 ht1 => h v' w1 A1 ?_ ht1
  replace h4 : Hp B A1 w1 (obS e v' (ys ++ zs) :: obY f ys l :: L.eraseIdx i) := h4
  obtain ⟨_, h5⟩ := Hp.open (h4.perm (.swap _ _ _))
  have h6 : Hp B A1 w1 (gsZ f zs m ++ (gsZ f ys l ++ (obS e v' (ys ++ zs) :: L.eraseIdx i))) := Hp.addBare h5 fun y x hyx => hbr.2 A1 w1 y x hyx
  have h7 : Hp B A1 w1 (gsZ f (ys ++ zs) (l ++ m) ++ (obS e v' (ys ++ zs) :: L.eraseIdx i)) := by
    refine h6.perm ?_
    have : gsZ f (ys ++ zs) (l ++ m) = gsZ f ys l ++ gsZ f zs m := by unfold gsZ; rw [List.zipWith_append hl]
    rw [this, ← List.append_assoc]
    exact List.Perm.append_right _ List.perm_append_comm
  have h8 := Hp.pack (F := fun (_ : Unit) => gsZ f (ys ++ zs) (l ++ m)) () h7
  exact Hp.gsPack (h8.perm (.swap _ _ _)) (by rw [List.length_append, List.length_append, hl, hbr.1])

/-- a store into a part of an element; what lies behind the element is made anew -/
theorem V_storeGS {ix : Int} {b off sz foff : Nat} {ys : List ρ} {yv yv' : ρ} {xv xv' : γ} {nv : Value} {F : List Ob} (hH : Hp B A w (obS e v ys :: F ++ (obYX f ys l ix.toNat :: L))) (hl : ys.length = l.length) (hloc : Loc v b off ix (GoT.cells ρ)) (hx1 : idx l ix = some xv) (hy1 : idx ys ix = some yv) (hr : setI l ix xv' = some r)
    (hrep : ∀ c1, GoT.rep A w c1 yv → GoT.rep A w (c1.take foff ++ nv.cells.toList ++ c1.drop (foff + sz)) yv') (hs : ∀ w, (Go.sizeOf t).run P w = .ok sz w) (hsz : nv.cells.size = sz) (hone : ∀ u ∈ nv.cells.toList, u.oneCell' = true) (hfit : foff + sz ≤ GoT.cells ρ) (hB : B ≤ w.heap.size) (hA : ∀ b, w.heap.size ≤ b → A b)
    (hpk : ∀ {A1 : Nat → Prop} {w1 : World} {L1 : List Ob}, Hp B A1 w1 (F ++ L1) → Hp B A1 w1 (f yv' xv' :: L1))
    (hx : ev E x = some (.pointer (some ⟨b, off + foff, none⟩))) (hy : ev E y = some nv)
    (h : ∀ w1, Hp B A w1 (obGS f e v r :: L) → Tr Dw B A w A w1 → V P n ops Q rest E w1) : V P n ops Q (⟨none, .store t x y, ty, pos, af, none⟩ :: rest) E w := by
  obtain ⟨h0, h1, _⟩ := idx_some hx1
  have hk : ix.toNat < l.length := by omega
  have hr' : r = l.set ix.toNat xv' := by
    unfold setI at hr
    split at hr
    · cases hr; rfl
    · cases hr
  subst hr'
  refine V_storeFH (α := ρ) (x' := yv') (r := ys.set ix.toNat yv') (foff := foff) hH (i := 0) rfl hloc hy1 (by unfold setI; rw [if_pos (by omega)]) hrep hs hsz hone hfit hB hA hx hy fun w1 h2 ht1 => h w1 ?_ ht1
  replace h2 : Hp B A w1 (obS e v (ys.set ix.toNat yv') :: F ++ (obYX f ys l ix.toNat :: L)) := h2
  have h3 : Hp B A w1 (F ++ (obS e v (ys.set ix.toNat yv') :: obYX f ys l ix.toNat :: L)) := h2.perm List.perm_middle.symm
  have h4 := (hpk h3).perm (.swap _ _ _)
  exact Hp.gsClose h4 hl hk
end steps

section
variable {B : Nat} {A A1 : Nat → Prop} {w w1 : World} {L M : List Ob} {i k N : Nat} {ρ γ : Type} [GoT ρ] [GoT γ] {f fr : ρ → γ → Ob} {e : TypeId} {v u : Value} {l m r : List γ} {ys zs : List ρ} {c c' : γ} {y y' : ρ} {ix : Int}

/-- a raw element's part, by its cell -/
theorem Hp.gsAt {foff b off : Nat} {p : ρ → Sv} {sv : Value} (h : Hp B A w L) (hi : L[i]? = some (obGS f e v l)) (hx : idx l ix = some c) (hloc : Loc v b off ix (GoT.cells ρ)) (hp : ∀ {A : Nat → Prop} {w : World} {b off : Nat} {y : ρ}, El A w b off y → El A w b (off + foff) (p y)) (hc : w.cell? ⟨b, off + foff, none⟩ = some sv) :
    ∃ ys : List ρ, ∃ y, ys.length = l.length ∧ idx ys ix = some y ∧ (p y).v = sv ∧ Hp B A w (obS e v ys :: f y c :: obYX f ys l ix.toNat :: L.eraseIdx i) := by
  obtain ⟨ys, hl, h2⟩ := h.gsOpen hi
  obtain ⟨y, hy⟩ := gsIdx hx hl
  have h3 := h2.gsTake (i := 1) rfl hx hy
  refine ⟨ys, y, hl, hy, ?_, h3.perm (.swap _ _ _)⟩
  have h4 := (hp (El.sl_at (h2.any (i := 0) rfl) hy hloc)).sv
  rw [h4] at hc
  exact Option.some.inj hc
/-- the element at a place apart -/
theorem Hp.gsGet (h : Hp B A w L) (hi : L[i]? = some (obGS f e v l)) (hx : idx l ix = some c) : ∃ ys : List ρ, ∃ y, ys.length = l.length ∧ idx ys ix = some y ∧ Hp B A w (obS e v ys :: f y c :: obYX f ys l ix.toNat :: L.eraseIdx i) := by
  obtain ⟨ys, hl, h2⟩ := h.gsOpen hi
  obtain ⟨y, hy⟩ := gsIdx hx hl
  exact ⟨ys, y, hl, hy, (h2.gsTake (i := 1) rfl hx hy).perm (.swap _ _ _)⟩
theorem Hp.elGS {b off : Nat} [Beh f] (h : Hp B A w L) (hi : L[i]? = some (obGS f e v l)) (hx : idx l ix = some c) (hloc : Loc v b off ix (GoT.cells γ)) : El (fun _ => True) w b off c := El.sl_at (h.anyGS hi) hx hloc
theorem cell_kp {b off : Nat} {u : Value} (h : w.cell? ⟨b, off, none⟩ = some u) (hk : Kp Dw w w1) : w1.cell? ⟨b, off, none⟩ = some u := (World.cell?_of_block (hk.block _ (World.block_lt_of_cell? _ _ h))).trans h

theorem Hp.gsIns {kk : Nat} (h : Hp B A w (obS e v (ys.take kk ++ zs ++ ys.drop kk) :: obY f ys l :: L)) (hl : ys.length = l.length) (hb : bare f zs m) : Hp B A w (obGS f e v (l.take kk ++ m ++ l.drop kk) :: L) := by
  obtain ⟨_, h1⟩ := Hp.open (h.perm (.swap _ _ _))
  have h2 : Hp B A w (gsZ f zs m ++ (gsZ f ys l ++ (obS e v (ys.take kk ++ zs ++ ys.drop kk) :: L))) := Hp.addBare h1 fun y x hyx => hb.2 A w y x hyx
  have e1 : gsZ f ys l = gsZ f (ys.take kk) (l.take kk) ++ gsZ f (ys.drop kk) (l.drop kk) := by
    unfold gsZ
    rw [← List.zipWith_append (by simp [hl]), List.take_append_drop, List.take_append_drop]
  have e2 : gsZ f (ys.take kk ++ zs ++ ys.drop kk) (l.take kk ++ m ++ l.drop kk) = gsZ f (ys.take kk) (l.take kk) ++ gsZ f zs m ++ gsZ f (ys.drop kk) (l.drop kk) := by
    unfold gsZ
    rw [List.zipWith_append (by simp [hl, hb.1]), List.zipWith_append (by simp [hl])]
  have h3 : Hp B A w (gsZ f (ys.take kk ++ zs ++ ys.drop kk) (l.take kk ++ m ++ l.drop kk) ++ (obS e v (ys.take kk ++ zs ++ ys.drop kk) :: L)) := by
    refine h2.perm ?_
    rw [e2, e1, ← List.append_assoc, ← List.append_assoc]
    exact List.Perm.append_right _ (List.Perm.append_right _ List.perm_append_comm)
  have h4 := Hp.pack (F := fun (_ : Unit) => gsZ f (ys.take kk ++ zs ++ ys.drop kk) (l.take kk ++ m ++ l.drop kk)) () h3
  exact Hp.gsPack (h4.perm (.swap _ _ _)) (by simp [hl, hb.1])

/-- an element, and whether what it holds is the call's own -/
structure Fgd (γ : Type) where
  x : γ
  own : Bool
instance : GoT (Fgd γ) := GoT.of (β := γ) (·.x)
def fO (f fr : ρ → γ → Ob) (y : ρ) (c : Fgd γ) : Ob := bif c.own then f y c.x else fr y c.x
instance [Beh f] [Beh fr] : Beh (fO f fr) where
  cells := show GoT.cells ρ = GoT.cells γ from Beh.cells (f := f)
  rd {A A1 w fb cs y x} hr hp hs hb := by
    obtain ⟨x, b⟩ := x
    cases b
    · exact Beh.rd (f := fr) hr hp hs hb
    · exact Beh.rd (f := f) hr hp hs hb
def flag (k : Nat) : Nat → List γ → List (Fgd γ)
  | _, [] => []
  | j, x :: l => ⟨x, decide (j < k)⟩ :: flag k (j + 1) l
theorem flag_map (k : Nat) : ∀ (j : Nat) (l : List γ), (flag k j l).map (·.x) = l
  | _, [] => rfl
  | j, x :: l => by rw [flag, List.map_cons, flag_map k (j + 1) l]
theorem flag_len (k : Nat) : ∀ (j : Nat) (l : List γ), (flag k j l).length = l.length
  | _, [] => rfl
  | j, x :: l => by rw [flag, List.length_cons, List.length_cons, flag_len]
theorem flag_get (k : Nat) : ∀ (j : Nat) (l : List γ) (q : Nat), (flag k j l)[q]? = (l[q]?).map fun x => ⟨x, decide (j + q < k)⟩
  | _, [], _ => by simp [flag]
  | j, x :: l, 0 => by simp [flag]
  | j, x :: l, q + 1 => by
    rw [flag, List.getElem?_cons_succ, List.getElem?_cons_succ, flag_get k (j + 1) l q, show j + 1 + q = j + (q + 1) by omega]
theorem flag_set {c : γ} (k : Nat) (l : List γ) : (flag k 0 l).set k ⟨c, true⟩ = flag (k + 1) 0 (l.set k c) := by
  apply List.ext_getElem?
  intro q
  rw [flag_get, List.getElem?_set, List.getElem?_set, flag_len, flag_get]
  by_cases hq : k = q
  · subst hq
    simp only [if_true]
    split
    · simp
    · rfl
  · rw [if_neg hq, if_neg hq]
    cases l[q]? with
    | none => rfl
    | some x => simp only [Option.map_some, Option.some.injEq, Fgd.mk.injEq, true_and, Nat.zero_add]; congr 1; exact propext ⟨fun h => by omega, fun h => by omega⟩
theorem repL_fl : ∀ {lb : List (Fgd γ)} {cs : List Value}, repL A w cs lb → repL A w cs (lb.map (·.x))
  | [], _, h => h
  | _ :: _, _, ⟨c1, c2, he, h1, h2⟩ => ⟨c1, c2, he, h1, repL_fl h2⟩
theorem Sl.flg {lb : List (Fgd γ)} (h : Sl A w v lb) : Sl A w v (lb.map (·.x)) := by
  rcases h with ⟨a, cap, rfl, rfl, h4, h5⟩ | ⟨b, off, cap, cs, rfl, h3, h4, h5, h6, h7, h8⟩
  · exact .inl ⟨a, cap, rfl, rfl, h4, h5⟩
  · exact .inr ⟨b, off, cap, cs, by rw [List.length_map], h3, h4, by rw [List.length_map]; exact h5, h6, repL_fl h7, h8⟩

/-- the first k elements hold slices of the call's own, the others what is only read -/
def obGU (f fr : ρ → γ → Ob) (e : TypeId) (v : Value) (l : List γ) (k N : Nat) : Ob := obE (fun (_ : Unit) => [obQ (l.length = N), obGS (fO f fr) e v (flag k 0 l)])
theorem Hp.guOpen (h : Hp B A w (obGU f fr e v l k N :: L)) : l.length = N ∧ Hp B A w (obGS (fO f fr) e v (flag k 0 l) :: L) := by
  obtain ⟨_, h1⟩ := Hp.open h
  obtain ⟨_, ⟨_, hr⟩, _⟩ := h1.at (i := 0) rfl
  exact ⟨hr, h1.drop (i := 0) rfl⟩
theorem Hp.guPack (h : Hp B A w (obGS (fO f fr) e v (flag k 0 l) :: L)) (hl : l.length = N) : Hp B A w (obGU f fr e v l k N :: L) :=
  Hp.pack (F := fun (_ : Unit) => [obQ (l.length = N), obGS (fO f fr) e v (flag k 0 l)]) () (h.free (O' := obQ (l.length = N)) ⟨rfl, hl⟩)
theorem Hp.anyGU [Beh f] [Beh fr] (h : Hp B A w L) (hi : L[i]? = some (obGU f fr e v l k N)) : Sl (fun _ => True) w v l := by
  have h1 := (h.front hi).guOpen.2
  have h2 := (h1.anyGS (i := 0) rfl).flg
  rwa [flag_map] at h2

/-- elements whose slices are only read -/
class MkR {ρ γ : Type} [GoT ρ] [GoT γ] (fr : ρ → γ → Ob) : Prop where
  ex : ∀ {A : Nat → Prop} {w : World} {cs : List Value} {x : γ}, GoT.rep A w cs x → ∃ y : ρ, GoT.rep A w cs y ∧ (fr y x).P [] A w
theorem repL_mk (fr : ρ → γ → Ob) [MkR fr] : ∀ {l : List γ} {cs : List Value}, repL A w cs l → ∃ ys : List ρ, repL A w cs ys ∧ ys.length = l.length ∧ ∀ y x, (y, x) ∈ ys.zip l → (fr y x).P [] A w
  | [], _, h => ⟨[], h, rfl, fun _ _ h => by cases h⟩
  | x :: l, _, ⟨c1, c2, he, h1, h2⟩ => by
    obtain ⟨y, h3, h4⟩ := MkR.ex (fr := fr) h1
    obtain ⟨ys, h5, h6, h7⟩ := repL_mk fr h2
    refine ⟨y :: ys, ⟨c1, c2, he, h3, h5⟩, by simp [h6], fun y' x' h => ?_⟩
    rcases List.mem_cons.1 h with h | h
    · cases h; exact h4
    · exact h7 _ _ h
theorem OwP.raw [MkR fr] (hc : GoT.cells ρ = GoT.cells γ) {fb : List Nat} (h : OwP e A w v l fb) : ∃ ys : List ρ, OwP e A w v ys fb ∧ ys.length = l.length ∧ ∀ y x, (y, x) ∈ ys.zip l → (fr y x).P [] A w := by
  rcases h with ⟨rfl, rfl, rfl⟩ | ⟨g, cap, cur, cs, rfl, rfl, h4, h5, h6, h7, h8, h9⟩
  · exact ⟨[], .inl ⟨rfl, rfl, rfl⟩, rfl, fun _ _ h => by cases h⟩
  · obtain ⟨ys, h1, h2, h3⟩ := repL_mk fr h8
    exact ⟨ys, .inr ⟨g, cap, cur, cs, by rw [h2], rfl, h4, by rw [h2]; exact h5, h6, by rw [hc]; exact h7, h1, by rw [h2, hc]; exact h9⟩, h2, h3⟩
theorem flag_zero : ∀ (j : Nat) (l : List γ), ∀ z ∈ flag 0 j l, z.own = false
  | _, [], _, h => by cases h
  | j, x :: l, z, h => by
    rw [flag] at h
    rcases List.mem_cons.1 h with rfl | h
    · rfl
    · exact flag_zero (j + 1) l z h
theorem zip_fl {lb : List (Fgd γ)} (h : ∀ z ∈ lb, z.own = false) : ∀ {ys : List ρ}, (∀ y x, (y, x) ∈ ys.zip (lb.map (·.x)) → (fr y x).P [] A w) → ∀ y z, (y, z) ∈ ys.zip lb → (fO f fr y z).P [] A w := by
  induction lb with
  | nil => intro ys _ y z hyz; simp at hyz
  | cons z0 lb ih =>
    intro ys hys y z hyz
    cases ys with
    | nil => cases hyz
    | cons y0 ys =>
      rcases List.mem_cons.1 hyz with h1 | h1
      · cases h1
        have h2 := h z0 (by simp)
        unfold fO
        rw [h2]
        exact hys _ _ (by simp)
      · exact ih (fun z hz => h z (by simp [hz])) (fun y x hyx => hys y x (by simp [hyx])) y z h1
theorem Hp.toGU [MkR fr] [Beh f] (h : Hp B A w L) (hi : L[i]? = some (obS e v l)) : Hp B A w (obGU f fr e v l 0 l.length :: L.eraseIdx i) := by
  obtain ⟨fb, hp, hb, hset⟩ := (h.front hi).at (i := 0) rfl
  obtain ⟨ys, h1, h2, h3⟩ := OwP.raw (fr := fr) (Beh.cells (f := f)) hp
  obtain ⟨U, ⟨f1, g, rfl, hd, hp1, hs⟩, hu⟩ := h.front hi
  obtain ⟨ys, h1, h2, h3⟩ := OwP.raw (fr := fr) (Beh.cells (f := f)) hp1
  have h4 : Hp B A w (obS e v ys :: L.eraseIdx i) := ⟨f1 ++ g, ⟨f1, g, rfl, hd, h1, hs⟩, hu⟩
  have h5 : Hp B A w (gsZ (fO f fr) ys (flag 0 0 l) ++ (obS e v ys :: L.eraseIdx i)) := Hp.addBare h4 fun y z hyz => zip_fl (flag_zero 0 l) (by rw [flag_map]; exact h3) y z hyz
  have h6 := Hp.pack (F := fun (_ : Unit) => gsZ (fO f fr) ys (flag 0 0 l)) () h5
  exact Hp.guPack (Hp.gsPack (h6.perm (.swap _ _ _)) (by rw [flag_len]; exact h2)) rfl
theorem gsZ_full : ∀ {ys : List ρ} {j : Nat} {l : List γ}, j + l.length ≤ k → gsZ (fO f fr) ys (flag k j l) = gsZ f ys l
  | [], _, _, _ => by simp [gsZ]
  | _ :: _, _, [], _ => by simp [gsZ, flag]
  | y :: ys, j, x :: l, h => by
    have ih := gsZ_full (ys := ys) (j := j + 1) (l := l) (by simp at h; omega)
    have hk : j < k := by simp at h; omega
    unfold gsZ at ih ⊢
    rw [flag, List.zipWith_cons_cons, List.zipWith_cons_cons, ih]
    simp [fO, hk]
theorem Hp.ofGU (h : Hp B A w (obGU f fr e v l k N :: L)) (hk : k = N) : Hp B A w (obGS f e v l :: L) := by
  obtain ⟨hl, h1⟩ := h.guOpen
  obtain ⟨ys, hy, h2⟩ := h1.gsOpen (i := 0) rfl
  rw [flag_len] at hy
  unfold obY at h2
  rw [gsZ_full (by omega)] at h2
  exact Hp.gsPack h2 hy
end

section steps
variable {P : Program} {n : Fr} {ops : Array Oper} {Q : Exit → Act → World → Prop} {E : Env} {w : World} {rest : List Oper} {v u : Value} {d : Nat} {W : World → Prop} {QA : Act → Prop}
variable {ty t e e2 : TypeId} {pos : String} {af : Array Edge} {x y z : Operand} {A : Nat → Prop} {B : Nat} {L : List Ob} {i k N : Nat} {ρ γ δ : Type} [GoT ρ] [GoT γ] [GoT δ] {f fr : ρ → γ → Ob} {l m r : List γ}

theorem V_indexAddrGU [Beh f] [Beh fr] {kd : IntKind} {ix : Int} {el : γ} (hH : Hp B A w L) (hi : L[i]? = some (obGU f fr e v l k N)) (hidx : idx l ix = some el) (ht : P.underlying t = some (.slice e)) (hsz : ∀ w, (Go.sizeOf e).run P w = .ok (GoT.cells ρ) w)
    (hx : ev E x = some v) (hy : ev E y = some (.int kd ix)) (hn : Nat.blt d n.sz = true) (h : ∀ b off, El (fun _ => True) w b off el → Loc v b off ix (GoT.cells γ) → V P n ops Q rest ((d, .pointer (some ⟨b, off, none⟩)) :: E) w) :
    V P n ops Q (⟨some d, .indexAddr t x y, ty, pos, af, none⟩ :: rest) E w := by
  have h1 := (hH.front hi).guOpen.2
  obtain ⟨h0, h01, h02⟩ := idx_some hidx
  have hidx' : idx (flag k 0 l) ix = some ⟨el, decide (0 + ix.toNat < k)⟩ := by
    unfold idx
    rw [if_pos h0, flag_get, h02]
    rfl
  exact V_indexAddrGS h1 (i := 0) rfl hidx' ht hsz hx hy hn fun b off he hloc => h b off (El.sl_at (hH.anyGU hi) hidx hloc) hloc

/-- the next element gets a slice of the call's own -/
theorem V_storeGU {b off foff : Nat} {xv xv' : γ} {nv : Value} {c' : List δ} (hH : Hp B A w (obGU f fr e v l k N :: obS e2 nv c' :: L)) (hloc : Loc v b off (k : Int) (GoT.cells γ)) (hc : GoT.cells ρ = GoT.cells γ) (hx1 : idx l (k : Int) = some xv) (hr : setI l (k : Int) xv' = some r)
    (hup : ∀ {A1 : Nat → Prop} {w1 : World} {yv : ρ}, (∃ fb, (fr yv xv).P fb A1 w1) → ∀ s : Sv, s.v = nv → ∃ yv', (∀ (A2 : Nat → Prop) (w2 : World) c1, GoT.rep A2 w2 c1 yv → GoT.rep A2 w2 (c1.take foff ++ [nv] ++ c1.drop (foff + 1)) yv') ∧ ∀ {A2 : Nat → Prop} {w2 : World} {L1 : List Ob}, Hp B A2 w2 (obS e2 nv c' :: L1) → Hp B A2 w2 (f yv' xv' :: L1))
    (hs : ∀ w, (Go.sizeOf t).run P w = .ok 1 w) (hfit : foff + 1 ≤ GoT.cells ρ) (hB : B ≤ w.heap.size) (hA : ∀ b, w.heap.size ≤ b → A b)
    (hx : ev E x = some (.pointer (some ⟨b, off + foff, none⟩))) (hy : ev E y = some nv)
    (h : ∀ w1, Hp B A w1 (obGU f fr e v r (k + 1) N :: L) → Tr Dw B A w A w1 → V P n ops Q rest E w1) : V P n ops Q (⟨none, .store t x y, ty, pos, af, none⟩ :: rest) E w := by
  obtain ⟨hl, h1⟩ := hH.guOpen
  obtain ⟨h0, h01, h02⟩ := idx_some hx1
  obtain ⟨hone, hcl⟩ : nv.oneCell' = true ∧ nv.cells.toList = [nv] := by
    obtain ⟨a, cap, rfl, _⟩ := hH.form (i := 1) rfl
    exact ⟨rfl, rfl⟩
  have hidx' : idx (flag k 0 l) (k : Int) = some ⟨xv, false⟩ := by
    unfold idx
    rw [if_pos h0, flag_get, h02, Int.toNat_natCast]
    simp
  obtain ⟨ys, yv, hly, hyv, h2⟩ := h1.gsGet (i := 0) rfl hidx'
  replace h2 : Hp B A w (obS e v ys :: fr yv xv :: obYX (fO f fr) ys (flag k 0 l) (k : Int).toNat :: obS e2 nv c' :: L) := h2
  obtain ⟨fb, hfr, _, _⟩ := h2.at (i := 1) rfl
  obtain ⟨yv', hrep, hpk⟩ := hup ⟨fb, hfr⟩ ⟨nv, hone⟩ rfl
  have h3 : Hp B A w (obS e v ys :: [obS e2 nv c'] ++ (obYX (fO f fr) ys (flag k 0 l) (k : Int).toNat :: L)) := by
    have h4 : Hp B A w (obS e v ys :: obYX (fO f fr) ys (flag k 0 l) (k : Int).toNat :: obS e2 nv c' :: L) := h2.drop (i := 1) rfl
    exact h4.perm ((List.Perm.swap _ _ _).cons _)
  have hr' : r = l.set k xv' := by
    unfold setI at hr
    split at hr
    · cases hr; rw [Int.toNat_natCast]
    · cases hr
  have hkl : k < l.length := by rw [Int.toNat_natCast] at h02; exact (List.getElem?_eq_some_iff.1 h02).1
  refine V_storeGS (f := fO f fr) (F := [obS e2 nv c']) (r := flag (k + 1) 0 r) (xv' := ⟨xv', true⟩) (yv' := yv') (foff := foff) (sz := 1) h3 (by rw [hly]) (by rw [hc]; exact hloc) hidx' hyv ?_ ?_ hs ?_ ?_ hfit hB hA ?_ hx hy fun w1 h5 ht => h w1 ?_ ht
  · unfold setI
    rw [if_pos (by rw [flag_len]; omega), hr', ← flag_set, Int.toNat_natCast]
  · intro c1 hc1
    rw [hcl]
    exact hrep A w c1 hc1
  · rw [← Array.length_toList, hcl]; rfl
  · intro u hu
    rw [hcl] at hu
    simp at hu
    subst hu
    exact hone
  · intro A1 w1 L1 h6
    exact hpk h6
  · exact Hp.guPack h5 (by rw [hr', List.length_set]; exact hl)
end steps
end Go.Gw
