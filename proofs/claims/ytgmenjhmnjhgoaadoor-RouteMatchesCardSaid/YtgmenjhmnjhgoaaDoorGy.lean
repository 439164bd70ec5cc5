/-
  Own slices of own slices: a row of slice values of the call's own, and behind each value a slice of the call's own.
-/
import Derived.Test.YtgmenjhmnjhgoaaDoorGt
namespace Go.Gw
open Go Go.RowKit Go.Pu
variable {Dw : Prop}
set_option linter.unusedSimpArgs false
set_option linter.unusedVariables false
set_option linter.unusedSectionVars false

/-- a value of one cell, as it is -/
structure Sv where
  v : Value
  one : v.oneCell' = true
instance : GoT Sv where
  cells := 1
  wf _ := True
  rep _ _ cs x := cs = [x.v]
  len h := by subst h; rfl
  one {_ _ _ x} h u hu := by subst h; simp at hu; subst hu; exact x.one
  keep h _ := h

section
variable {α : Type} [GoT α]
def ssZ (e2 : TypeId) (vs : List Sv) (l : List (List α)) : List Ob := List.zipWith (fun p c => obS e2 p.v c) vs l
def obZ (e2 : TypeId) (vs : List Sv) (l : List (List α)) : Ob := obE (fun (_ : Unit) => ssZ e2 vs l)
/-- the same without the one at k -/
def obZX (e2 : TypeId) (vs : List Sv) (l : List (List α)) (k : Nat) : Ob := obE (fun (_ : Unit) => (ssZ e2 vs l).eraseIdx k)
def ssL (e e2 : TypeId) (v : Value) (l : List (List α)) (vs : List Sv) : List Ob := obQ (vs.length = l.length) :: obS e v vs :: ssZ e2 vs l
def obSS (e e2 : TypeId) (v : Value) (l : List (List α)) : Ob := obE (ssL e e2 v l)
end

section
variable {B : Nat} {A A1 : Nat → Prop} {w w1 : World} {L M : List Ob} {i k : Nat} {α : Type} [GoT α] {e e2 : TypeId} {v u : Value} {l : List (List α)} {vs : List Sv} {c c' : List α} {y : Sv} {ix : Int}

theorem ssIdx (hx : idx l ix = some c) (hl : vs.length = l.length) : ∃ y, idx vs ix = some y := by
  obtain ⟨h0, h1, _⟩ := idx_some hx
  unfold idx
  rw [if_pos h0]
  exact ⟨_, List.getElem?_eq_getElem (by omega)⟩

theorem Hp.ssOpen (h : Hp B A w L) (hi : L[i]? = some (obSS e e2 v l)) : ∃ vs, vs.length = l.length ∧ Hp B A w (obS e v vs :: obZ e2 vs l :: L.eraseIdx i) := by
  obtain ⟨vs, h2⟩ := Hp.open (h.front hi)
  have hl : vs.length = l.length := by
    obtain ⟨_, ⟨_, hr⟩, _⟩ := h2.at (i := 0) rfl
    exact hr
  refine ⟨vs, hl, ?_⟩
  have h3 := h2.drop (i := 0) rfl
  have h4 : Hp B A w (ssZ e2 vs l ++ (obS e v vs :: L.eraseIdx i)) := by
    refine h3.perm ?_
    show (obS e v vs :: ssZ e2 vs l ++ L.eraseIdx i).Perm _
    exact List.perm_middle.symm
  exact (Hp.pack (F := fun (_ : Unit) => ssZ e2 vs l) () h4).perm (.swap _ _ _)

theorem Hp.ssPack (h : Hp B A w (obS e v vs :: obZ e2 vs l :: L)) (hl : vs.length = l.length) : Hp B A w (obSS e e2 v l :: L) := by
  obtain ⟨_, h2⟩ := Hp.open (h.perm (.swap _ _ _))
  refine Hp.pack (F := ssL e e2 v l) vs ?_
  have h3 : Hp B A w (obS e v vs :: ssZ e2 vs l ++ L) := h2.perm List.perm_middle
  exact h3.free (O' := obQ (vs.length = l.length)) ⟨rfl, hl⟩

theorem ssZ_at (hk : l[k]? = some c) (hy : vs[k]? = some y) : (ssZ e2 vs l)[k]? = some (obS e2 y.v c) := by
  unfold ssZ
  rw [List.getElem?_zipWith, hk, hy]

/-- the one at a place apart -/
theorem Hp.zTake (h : Hp B A w L) (hi : L[i]? = some (obZ e2 vs l)) (hx : idx l ix = some c) (hy : idx vs ix = some y) : Hp B A w (obS e2 y.v c :: L.set i (obZX e2 vs l ix.toNat)) := by
  obtain ⟨_, _, hx⟩ := idx_some hx
  obtain ⟨_, _, hy⟩ := idx_some hy
  obtain ⟨_, h2⟩ := Hp.open (h.front hi)
  have hz := ssZ_at (e2 := e2) hx hy
  have h3 : Hp B A w ((ssZ e2 vs l).eraseIdx ix.toNat ++ (obS e2 y.v c :: L.eraseIdx i)) := by
    refine h2.perm ?_
    refine List.Perm.trans (List.Perm.append_right _ (perm_take hz)) ?_
    exact List.perm_middle.symm
  have h4 := Hp.pack (F := fun (_ : Unit) => (ssZ e2 vs l).eraseIdx ix.toNat) () h3
  refine h4.perm ?_
  exact (List.Perm.swap _ _ _).trans ((perm_set hi).cons _)

theorem ssZ_set (hk : k < l.length) (hl : vs.length = l.length) : (ssZ e2 (vs.set k y) (l.set k c')).eraseIdx k = (ssZ e2 vs l).eraseIdx k := by
  unfold ssZ
  apply List.ext_getElem?
  intro j
  simp only [List.getElem?_eraseIdx, List.getElem?_zipWith]
  split
  · rw [List.getElem?_set_ne (by omega), List.getElem?_set_ne (by omega)]
  · rw [List.getElem?_set_ne (by omega), List.getElem?_set_ne (by omega)]

theorem Hp.ssClose (h : Hp B A w (obS e v (vs.set k y) :: obS e2 y.v c' :: obZX e2 vs l k :: L)) (hl : vs.length = l.length) (hk : k < l.length) : Hp B A w (obSS e e2 v (l.set k c') :: L) := by
  have h1 : Hp B A w (obZX e2 vs l k :: obS e2 y.v c' :: obS e v (vs.set k y) :: L) := by
    refine h.perm ?_
    refine (List.Perm.swap _ _ _).trans ?_
    refine ((List.Perm.swap _ _ _).cons _).trans ?_
    exact .swap _ _ _
  obtain ⟨_, h2⟩ := Hp.open h1
  have hz := ssZ_at (e2 := e2) (k := k) (vs := vs.set k y) (l := l.set k c') (c := c') (y := y) (List.getElem?_set_self hk) (List.getElem?_set_self (by omega))
  have h3 : Hp B A w (ssZ e2 (vs.set k y) (l.set k c') ++ (obS e v (vs.set k y) :: L)) := by
    refine h2.perm ?_
    rw [← ssZ_set (c' := c') (y := y) hk hl]
    refine List.perm_middle.trans ?_
    exact List.Perm.append_right _ (perm_take hz).symm
  have h4 := Hp.pack (F := fun (_ : Unit) => ssZ e2 (vs.set k y) (l.set k c')) () h3
  exact Hp.ssPack (h4.perm (.swap _ _ _)) (by rw [List.length_set, List.length_set]; exact hl)

/-- what was taken apart only to be read goes back -/
theorem Hp.ssBack {j : Nat} (h : Hp B A w L) (hc : L[i]? = some (obZX e2 vs l ix.toNat)) (hb : (L.eraseIdx i)[j]? = some (obS e2 y.v c)) (ha : ((L.eraseIdx i).eraseIdx j)[k]? = some (obS e v vs)) (hx : idx l ix = some c) (hy : idx vs ix = some y) (hl : vs.length = l.length) :
    Hp B A w (obSS e e2 v l :: ((L.eraseIdx i).eraseIdx j).eraseIdx k) := by
  obtain ⟨_, x1, hx⟩ := idx_some hx
  obtain ⟨_, _, hy⟩ := idx_some hy
  have h1 := h.front hc
  have h2 : Hp B A w (obS e2 y.v c :: obZX e2 vs l ix.toNat :: (L.eraseIdx i).eraseIdx j) := h1.front (i := j + 1) hb
  have h3 : Hp B A w (obS e v vs :: obS e2 y.v c :: obZX e2 vs l ix.toNat :: ((L.eraseIdx i).eraseIdx j).eraseIdx k) := h2.front (i := k + 2) ha
  have e1 : vs.set ix.toNat y = vs := by
    apply List.ext_getElem?
    intro m
    by_cases hm : ix.toNat = m
    · subst hm; rw [List.getElem?_set_self (List.getElem?_eq_some_iff.1 hy).1, hy]
    · rw [List.getElem?_set_ne hm]
  have e2' : l.set ix.toNat c = l := by
    apply List.ext_getElem?
    intro m
    by_cases hm : ix.toNat = m
    · subst hm; rw [List.getElem?_set_self (List.getElem?_eq_some_iff.1 hx).1, hx]
    · rw [List.getElem?_set_ne hm]
  have h4 := Hp.ssClose (k := ix.toNat) (c' := c) (vs := vs) (l := l) (e := e) (v := v) (y := y) (by rw [e1]; exact h3) hl (List.getElem?_eq_some_iff.1 hx).1
  rw [e2'] at h4
  exact h4

/-- what was taken apart and written goes back -/
theorem Hp.ssBackW {j : Nat} {r : List (List α)} (h : Hp B A w L) (hc : L[i]? = some (obZX e2 vs l ix.toNat)) (hb : (L.eraseIdx i)[j]? = some (obS e2 y.v c')) (ha : ((L.eraseIdx i).eraseIdx j)[k]? = some (obS e v vs)) (hx : idx l ix = some c) (hy : idx vs ix = some y) (hl : vs.length = l.length) (hr : setI l ix c' = some r) :
    Hp B A w (obSS e e2 v r :: ((L.eraseIdx i).eraseIdx j).eraseIdx k) := by
  obtain ⟨_, x1, hx⟩ := idx_some hx
  obtain ⟨_, _, hy⟩ := idx_some hy
  have h1 := h.front hc
  have h2 : Hp B A w (obS e2 y.v c' :: obZX e2 vs l ix.toNat :: (L.eraseIdx i).eraseIdx j) := h1.front (i := j + 1) hb
  have h3 : Hp B A w (obS e v vs :: obS e2 y.v c' :: obZX e2 vs l ix.toNat :: ((L.eraseIdx i).eraseIdx j).eraseIdx k) := h2.front (i := k + 2) ha
  have e1 : vs.set ix.toNat y = vs := by
    apply List.ext_getElem?
    intro m
    by_cases hm : ix.toNat = m
    · subst hm; rw [List.getElem?_set_self (List.getElem?_eq_some_iff.1 hy).1, hy]
    · rw [List.getElem?_set_ne hm]
  have h4 := Hp.ssClose (k := ix.toNat) (c' := c') (vs := vs) (l := l) (e := e) (v := v) (y := y) (by rw [e1]; exact h3) hl (List.getElem?_eq_some_iff.1 hx).1
  unfold setI at hr
  split at hr
  · cases hr; exact h4
  · cases hr

theorem repL_ss : ∀ {vs : List Sv} {l : List (List α)} {cs : List Value}, repL (fun _ => True) w cs vs → vs.length = l.length → (∀ (k : Nat) (p : Sv) (c : List α), vs[k]? = some p → l[k]? = some c → Sl (fun _ => True) w p.v c) → repL (fun _ => True) w cs l
  | [], [], _, h, _, _ => h
  | p :: vs, c :: l, _, ⟨c1, c2, he, h1, h2⟩, hl, hs =>
    ⟨c1, c2, he, ⟨p.v, h1, hs 0 p c rfl rfl⟩, repL_ss h2 (by simpa using hl) fun k p' c' h3 h4 => hs (k + 1) p' c' h3 h4⟩

theorem Hp.ssEach (h : Hp B A w L) (hi : L[i]? = some (obSS e e2 v l)) : ∃ vs, vs.length = l.length ∧ Hp B A w (obS e v vs :: obZ e2 vs l :: L.eraseIdx i) ∧ ∀ (k : Nat) (p : Sv) (c : List α), vs[k]? = some p → l[k]? = some c → Sl (fun _ => True) w p.v c := by
  obtain ⟨vs, hl, h2⟩ := h.ssOpen hi
  refine ⟨vs, hl, h2, fun k p c hp hc => ?_⟩
  have h3 := h2.zTake (i := 1) rfl (ix := (k : Int)) (c := c) (y := p) (by unfold idx; rw [if_pos (by omega)]; simpa using hc) (by unfold idx; rw [if_pos (by omega)]; simpa using hp)
  exact h3.any (i := 0) rfl

theorem Hp.ssLe (h : Hp B A w L) (hi : L[i]? = some (obSS e e2 v l)) : l.length ≤ maxLen := by
  obtain ⟨vs, hl, h2⟩ := h.ssOpen hi
  rw [← hl]
  exact h2.le (i := 0) rfl
/-- read as any slice of slices -/
theorem Hp.anySS (h : Hp B A w L) (hi : L[i]? = some (obSS e e2 v l)) : Sl (fun _ => True) w v l := by
  obtain ⟨vs, hl, h2, hs⟩ := h.ssEach hi
  rcases h2.any (i := 0) rfl with ⟨a, cap, rfl, h3, h4, h5⟩ | ⟨b, off, cap, cs, rfl, h3, h4, h5, h6, h7, h8⟩
  · refine .inl ⟨a, cap, rfl, ?_, h4, h5⟩
    subst h3
    exact List.length_eq_zero_iff.1 (by simpa using hl.symm)
  · exact .inr ⟨b, off, cap, cs, by rw [hl], h3, h4, by omega, h6, repL_ss h7 hl hs, h8⟩
end

section steps
variable {P : Program} {n : Fr} {ops : Array Oper} {Q : Exit → Act → World → Prop} {E : Env} {w : World} {rest : List Oper} {v u : Value} {d : Nat} {W : World → Prop} {QA : Act → Prop}
variable {ty t e e2 : TypeId} {pos : String} {af : Array Edge} {x y z : Operand} {A : Nat → Prop} {B : Nat} {L : List Ob} {i : Nat} {α : Type} [GoT α] {l : List (List α)} {c : List α}

theorem El.ss {b off : Nat} {p : Sv} (h : El (fun _ => True) w b off p) (hs : Sl (fun _ => True) w p.v c) : El (fun _ => True) w b off c := by
  obtain ⟨h1, h2, cs, h3, h4⟩ := h
  have : cs = [p.v] := h3
  subst this
  exact ⟨h1, h2, _, ⟨_, rfl, hs⟩, h4⟩
theorem El.sv {A : Nat → Prop} {b off : Nat} {p : Sv} (h : El A w b off p) : w.cell? ⟨b, off, none⟩ = some p.v := h.cell fun _ h => h

theorem V_indexAddrSS {k : IntKind} {ix : Int} {el : List α} (hH : Hp B A w L) (hi : L[i]? = some (obSS e e2 v l)) (hidx : idx l ix = some el) (ht : P.underlying t = some (.slice e)) (hsz : ∀ w, (Go.sizeOf e).run P w = .ok 1 w)
    (hx : ev E x = some v) (hy : ev E y = some (.int k ix)) (hn : Nat.blt d n.sz = true) (h : ∀ b off, El (fun _ => True) w b off el → Loc v b off ix 1 → V P n ops Q rest ((d, .pointer (some ⟨b, off, none⟩)) :: E) w) :
    V P n ops Q (⟨some d, .indexAddr t x y, ty, pos, af, none⟩ :: rest) E w := by
  obtain ⟨vs, hl, h2, hs⟩ := hH.ssEach hi
  obtain ⟨p, hp⟩ := ssIdx hidx hl
  exact V_indexAddrH (α := Sv) h2 (i := 0) rfl hp ht hsz hx hy hn fun b off he hloc => h b off (he.ss (hs _ _ _ (idx_some hp).2.2 (idx_some hidx).2.2)) hloc
theorem VQ_indexAddrSS {k : IntKind} {ix : Int} {el : List α} (hH : Hp B A w L) (hi : L[i]? = some (obSS e e2 v l)) (hidx : idx l ix = some el) (ht : P.underlying t = some (.slice e)) (hsz : ∀ w, (Go.sizeOf e).run P w = .ok 1 w)
    (hx : ev E x = some v) (hy : ev E y = some (.int k ix)) (hn : Nat.blt d n.sz = true) (h : ∀ b off, El (fun _ => True) w b off el → Loc v b off ix 1 → VQ P n ops W QA rest ((d, .pointer (some ⟨b, off, none⟩)) :: E)) :
    VQ P n ops W QA (⟨some d, .indexAddr t x y, ty, pos, af, none⟩ :: rest) E := by
  obtain ⟨vs, hl, h2, hs⟩ := hH.ssEach hi
  obtain ⟨p, hp⟩ := ssIdx hidx hl
  exact VQ_indexAddrH (α := Sv) h2 (i := 0) rfl hp ht hsz hx hy hn fun b off he hloc => h b off (he.ss (hs _ _ _ (idx_some hp).2.2 (idx_some hidx).2.2)) hloc

theorem ss_nil {A : Nat → Prop} {w : World} (hH : Hp B A w L) (e2 : TypeId) : ∀ n, Hp B A w (ssZ e2 (List.replicate n (⟨.slice none 0 0, rfl⟩ : Sv)) (List.replicate n ([] : List α)) ++ L)
  | 0 => hH
  | n + 1 => (ss_nil hH e2 n).addNil (α := α) (e := e2)

theorem V_makeSS {k : Int} {kd kc : IntKind} {r : List (List α)} {lim bytes : Nat} {ti : TypeInfo} {zv : Value} (hH : Hp B A w L) (hr : makeL lim k ([] : List α) = some r) (hzr : zv.cells.toList = [.slice none 0 0]) (ht : P.underlying t = some (.slice e)) (hti : P.info? e = some ti) (hz : ti.zero = some zv)
    (hsize : ti.size = 1) (hby : ti.bytes = bytes) (hlim : bytes * lim ≤ 281474976710656) (hlm : lim ≤ maxLen) (hB : B ≤ w.heap.size) (hA : ∀ b, w.heap.size ≤ b → A b)
    (hx : ev E x = some (.int kd k)) (hy : ev E y = some (.int kc k)) (hn : Nat.blt d n.sz = true)
    (h : ∀ v w1 A1, Hp B A1 w1 (obSS e e2 v r :: L) → Tr Dw B A w A1 w1 → V P n ops Q rest ((d, v) :: E) w1) :
    V P n ops Q (⟨some d, .makeSlice t x y, ty, pos, af, none⟩ :: rest) E w := by
  unfold makeL at hr
  split at hr
  case isFalse => cases hr
  rename_i hk
  cases hr
  refine V_makeH (α := Sv) (zz := ⟨.slice none 0 0, rfl⟩) (r := List.replicate k.toNat ⟨.slice none 0 0, rfl⟩) hH (by unfold makeL; rw [if_pos hk]) (fun _ _ => hzr) ht hti hz hsize hby hlim hlm hB hA hx hy hn fun v w1 A1 h1 ht1 => h v w1 A1 ?_ ht1
  have h2 := ss_nil (α := α) h1 e2 k.toNat
  have h3 := Hp.pack (F := fun (_ : Unit) => ssZ e2 (List.replicate k.toNat (⟨.slice none 0 0, rfl⟩ : Sv)) (List.replicate k.toNat ([] : List α))) () h2
  exact Hp.ssPack (h3.perm (.swap _ _ _)) (by simp)

/-- the new slice goes into its place -/
theorem V_storeSS {vs : List Sv} {r : List (List α)} {c' : List α} {ix : Int} {b off sz : Nat} {nv : Value} {p : Sv} (hH : Hp B A w (obS e v vs :: obS e2 nv c' :: obZX e2 vs l ix.toNat :: L)) (hl : vs.length = l.length) (hp : idx vs ix = some p) (hloc : Loc v b off ix 1) (hr : setI l ix c' = some r) (hs : ∀ w, (Go.sizeOf t).run P w = .ok sz w) (hsz : sz = 1) (hB : B ≤ w.heap.size) (hA : ∀ b, w.heap.size ≤ b → A b)
    (hx : ev E x = some (.pointer (some ⟨b, off, none⟩))) (hy : ev E y = some nv)
    (h : ∀ w1, Hp B A w1 (obSS e e2 v r :: L) → Tr Dw B A w A w1 → V P n ops Q rest E w1) : V P n ops Q (⟨none, .store t x y, ty, pos, af, none⟩ :: rest) E w := by
  unfold setI at hr
  split at hr
  case isFalse => cases hr
  rename_i hk
  cases hr
  obtain ⟨hone, hcl⟩ : nv.oneCell' = true ∧ nv.cells.toList = [nv] := by
    obtain ⟨a, cap, rfl, _⟩ := hH.form (i := 1) rfl
    exact ⟨rfl, rfl⟩
  refine V_storeH (α := Sv) (x' := ⟨nv, hone⟩) (r := vs.set ix.toNat ⟨nv, hone⟩) hH (i := 0) rfl hloc (by unfold setI; rw [if_pos (by omega)]) hcl hs hsz hB hA hx hy fun w1 h1 ht => h w1 ?_ ht
  exact Hp.ssClose h1 hl hk.2
/-- a new slice of the call's own goes into a place, and what was there is forgotten -/
theorem V_storeSN {r : List (List α)} {c' : List α} {ix : Int} {b off sz : Nat} {nv : Value} (hH : Hp B A w (obSS e e2 v l :: obS e2 nv c' :: L)) (hloc : Loc v b off ix 1) (hr : setI l ix c' = some r) (hs : ∀ w, (Go.sizeOf t).run P w = .ok sz w) (hsz : sz = 1) (hB : B ≤ w.heap.size) (hA : ∀ b, w.heap.size ≤ b → A b)
    (hx : ev E x = some (.pointer (some ⟨b, off, none⟩))) (hy : ev E y = some nv)
    (h : ∀ w1, Hp B A w1 (obSS e e2 v r :: L) → Tr Dw B A w A w1 → V P n ops Q rest E w1) : V P n ops Q (⟨none, .store t x y, ty, pos, af, none⟩ :: rest) E w := by
  obtain ⟨vs, hl, h2⟩ := hH.ssOpen (i := 0) rfl
  have hk : 0 ≤ ix ∧ ix < l.length := by
    unfold setI at hr
    split at hr
    · rename_i hq; omega
    · cases hr
  have hc : idx l ix = some (l[ix.toNat]'(by omega)) := by
    unfold idx
    rw [if_pos hk.1]
    exact List.getElem?_eq_getElem (by omega)
  obtain ⟨p, hp⟩ := ssIdx hc hl
  have h3 := h2.zTake (i := 1) rfl hc hp
  have h4 := h3.drop (i := 0) rfl
  have h5 : Hp B A w (obS e v vs :: obS e2 nv c' :: obZX e2 vs l ix.toNat :: L) := h4.perm ((List.Perm.swap _ _ _).cons _)
  exact V_storeSS h5 hl hp hloc hr hs hsz hB hA hx hy h
end steps
end Go.Gw
