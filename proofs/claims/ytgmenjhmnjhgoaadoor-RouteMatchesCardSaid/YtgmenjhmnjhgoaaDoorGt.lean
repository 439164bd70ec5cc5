/-
  Slices of pointers to objects of one kind: the call's own, each pointer to an object apart.
-/
import Derived.Test.YtgmenjhmnjhgoaaDoorGk
import Derived.Test.YtgmenjhmnjhgoaaDoorGq
namespace Go.Gw
open Go Go.RowKit Go.Pu
variable {Dw : Prop}
set_option linter.unusedSimpArgs false
set_option linter.unusedVariables false

structure Ptr where
  b : Nat
instance : GoT Ptr where
  cells := 1
  wf _ := True
  rep _ _ cs x := cs = [.pointer (some ⟨x.b, 0, none⟩)]
  len h := by subst h; rfl
  one h u hu := by subst h; simp at hu; subst hu; rfl
  keep h _ := h

/-- a plain fact -/
abbrev obQ (p : Prop) : Ob := obF (fun _ _ => p) (fun h _ => h)

section
variable {γ : Type} (f : Nat → γ → Ob)
/-- the objects behind the pointers -/
def psZ (ps : List Ptr) (cs : List γ) : List Ob := List.zipWith (fun p c => f p.b c) ps cs
def psL (e : TypeId) (v : Value) (cs : List γ) (ps : List Ptr) : List Ob := obQ (ps.length = cs.length) :: obS e v ps :: psZ f ps cs
/-- a slice of pointers, cs: what the objects are -/
def obPS (e : TypeId) (v : Value) (cs : List γ) : Ob := obE (psL f e v cs)
/-- the same without object k, which lies at b -/
def obPX (e : TypeId) (v : Value) (cs : List γ) (k b : Nat) : Ob := obE (fun ps => obQ (ps.length = cs.length ∧ ps[k]? = some (⟨b⟩ : Ptr)) :: obS e v ps :: (psZ f ps cs).eraseIdx k)
end

theorem perm_take {α : Type} {x : α} : ∀ {l : List α} {i : Nat}, l[i]? = some x → l.Perm (x :: l.eraseIdx i)
  | [], _, h => by simp at h
  | y :: l, 0, h => by simp at h; subst h; exact .refl _
  | y :: l, i + 1, h => by
    simp at h
    exact ((perm_take h).cons y).trans (.swap _ _ _)
theorem perm_set {α : Type} {x y : α} : ∀ {l : List α} {i : Nat}, l[i]? = some x → (y :: l.eraseIdx i).Perm (l.set i y)
  | [], _, h => by simp at h
  | z :: l, 0, h => by simp
  | z :: l, i + 1, h => by
    simp at h
    exact (List.Perm.swap _ _ _).trans ((perm_set h).cons z)

section
variable {B : Nat} {A A1 : Nat → Prop} {w w1 : World} {L M : List Ob} {O : Ob} {i k : Nat} {γ : Type} {f : Nat → γ → Ob} {e : TypeId} {v : Value} {cs : List γ} {c : γ}

theorem psZ_at {ps : List Ptr} {cs : List γ} (hl : ps.length = cs.length) {k : Nat} {c : γ} (hk : cs[k]? = some c) : ∃ b, ps[k]? = some (⟨b⟩ : Ptr) ∧ (psZ f ps cs)[k]? = some (f b c) := by
  have hlt := (List.getElem?_eq_some_iff.1 hk).1
  have hp : ps[k]? = some ps[k] := List.getElem?_eq_getElem (by omega)
  refine ⟨ps[k].b, hp, ?_⟩
  unfold psZ
  rw [List.getElem?_zipWith, hp, hk]

/-- object k apart -/
theorem Hp.psOpen (h : Hp B A w L) (hi : L[i]? = some (obPS f e v cs)) (hk : cs[k]? = some c) : ∃ b ps, ps[k]? = some (⟨b⟩ : Ptr) ∧ ps.length = cs.length ∧ Sl (fun _ => True) w v ps ∧ Hp B A w (f b c :: L.set i (obPX f e v cs k b)) := by
  have h1 := h.front hi
  obtain ⟨ps, h2⟩ := Hp.open h1
  have hl : ps.length = cs.length := by
    obtain ⟨_, ⟨_, hr⟩, _⟩ := h2.at (i := 0) rfl
    exact hr
  obtain ⟨b, hp, hz⟩ := psZ_at (f := f) hl hk
  have hs := h2.any (α := Ptr) (i := 1) rfl
  refine ⟨b, ps, hp, hl, hs, ?_⟩
  have h3 : Hp B A w (f b c :: (obS e v ps :: (psZ f ps cs).eraseIdx k ++ L.eraseIdx i)) := by
    have h4 := h2.drop (i := 0) rfl
    refine h4.perm ?_
    show (obS e v ps :: psZ f ps cs ++ L.eraseIdx i).Perm _
    refine List.Perm.trans (List.Perm.append_right _ ((perm_take hz).cons _)) ?_
    exact .swap _ _ _
  have h5 : Hp B A w ((obQ (ps.length = cs.length ∧ ps[k]? = some (⟨b⟩ : Ptr)) :: obS e v ps :: (psZ f ps cs).eraseIdx k) ++ f b c :: L.eraseIdx i) := by
    have h6 := h3.free (O' := obQ (ps.length = cs.length ∧ ps[k]? = some (⟨b⟩ : Ptr))) ⟨rfl, hl, hp⟩
    refine h6.perm ?_
    simp only [List.cons_append]
    refine List.Perm.cons _ ?_
    show (f b c :: (obS e v ps :: (psZ f ps cs).eraseIdx k ++ L.eraseIdx i)).Perm ((obS e v ps :: (psZ f ps cs).eraseIdx k) ++ f b c :: L.eraseIdx i)
    exact List.perm_middle.symm
  have h7 := Hp.pack (F := fun ps => obQ (ps.length = cs.length ∧ ps[k]? = some (⟨b⟩ : Ptr)) :: obS e v ps :: (psZ f ps cs).eraseIdx k) ps h5
  refine h7.perm ?_
  exact (List.Perm.swap _ _ _).trans ((perm_set hi).cons _)

/-- object k back in its place, perhaps turned -/
theorem Hp.psClose {b : Nat} {c c' : γ} (h : Hp B A w (f b c' :: L)) (hi : L[i]? = some (obPX f e v cs k b)) (hk : cs[k]? = some c) : Hp B A w (L.set i (obPS f e v (cs.set k c'))) := by
  have h1 := h.front (i := i + 1) (by simpa using hi)
  obtain ⟨ps, h2⟩ := Hp.open h1
  have hl : ps.length = cs.length ∧ ps[k]? = some (⟨b⟩ : Ptr) := by
    obtain ⟨_, ⟨_, hr⟩, _⟩ := h2.at (i := 0) rfl
    exact hr
  have hlt := (List.getElem?_eq_some_iff.1 hk).1
  have hz : (psZ f ps (cs.set k c'))[k]? = some (f b c') := by
    unfold psZ
    rw [List.getElem?_zipWith, hl.2, List.getElem?_set_self hlt]
  have he : (psZ f ps (cs.set k c')).eraseIdx k = (psZ f ps cs).eraseIdx k := by
    unfold psZ
    apply List.ext_getElem?
    intro j
    simp only [List.getElem?_eraseIdx, List.getElem?_zipWith]
    split
    · rw [List.getElem?_set_ne (by omega)]
    · rw [List.getElem?_set_ne (by omega)]
  have h3 := h2.drop (i := 0) rfl
  have h4 : Hp B A w (psL f e v (cs.set k c') ps ++ L.eraseIdx i) := by
    have h5 := h3.free (O' := obQ (ps.length = (cs.set k c').length)) ⟨rfl, by rw [List.length_set]; exact hl.1⟩
    refine h5.perm ?_
    unfold psL
    simp only [List.cons_append]
    refine List.Perm.cons _ (List.Perm.cons _ ?_)
    show ((psZ f ps cs).eraseIdx k ++ f b c' :: L.eraseIdx i).Perm (psZ f ps (cs.set k c') ++ L.eraseIdx i)
    rw [← he]
    refine List.perm_middle.trans ?_
    exact List.Perm.append_right _ (perm_take hz).symm
  exact (Hp.pack (F := psL f e v (cs.set k c')) ps h4).perm (perm_set hi)
theorem Hp.psBack {b : Nat} {c : γ} (h : Hp B A w (f b c :: L)) (hi : L[i]? = some (obPX f e v cs k b)) (hk : cs[k]? = some c) : Hp B A w (L.set i (obPS f e v cs)) := by
  have := h.psClose hi hk
  have e : cs.set k c = cs := by
    apply List.ext_getElem?
    intro j
    by_cases hj : k = j
    · subst hj; rw [List.getElem?_set_self (List.getElem?_eq_some_iff.1 hk).1, hk]
    · rw [List.getElem?_set_ne hj]
  rwa [e] at this
theorem Hp.psNil (h : Hp B A w L) : Hp B A w (obPS f e (.slice none 0 0) [] :: L) := by
  refine Hp.pack (F := psL f e (.slice none 0 0) []) [] ?_
  exact (h.addNil (α := Ptr) (e := e)).free (O' := obQ (([] : List Ptr).length = ([] : List γ).length)) ⟨rfl, rfl⟩
theorem Hp.psForm (h : Hp B A w L) (hi : L[i]? = some (obPS f e v cs)) : ∃ a cap, v = .slice a cs.length cap ∧ cs.length ≤ maxLen := by
  obtain ⟨ps, h2⟩ := Hp.open (h.front hi)
  have hl : ps.length = cs.length := by
    obtain ⟨_, ⟨_, hr⟩, _⟩ := h2.at (i := 0) rfl
    exact hr
  have := (h2.any (α := Ptr) (i := 1) rfl).form
  rwa [hl] at this
theorem Hp.psLe (h : Hp B A w L) (hi : L[i]? = some (obPS f e v cs)) : cs.length ≤ maxLen := let ⟨_, _, _, h⟩ := h.psForm hi; h
theorem Hp.psOne (h : Hp B A w L) (hi : L[i]? = some (obPS f e v cs)) : v.oneCell' = true := by
  obtain ⟨_, _, rfl, _⟩ := h.psForm hi
  rfl
end

section steps
variable {P : Program} {n : Fr} {ops : Array Oper} {Q : Exit → Act → World → Prop} {E : Env} {w : World} {rest : List Oper} {v u : Value} {d : Nat} {W : World → Prop} {QA : Act → Prop}
variable {ty t e : TypeId} {pos : String} {af : Array Edge} {x y z : Operand} {A : Nat → Prop} {B : Nat} {L : List Ob} {i : Nat} {γ : Type} {f : Nat → γ → Ob} {cs : List γ} {c : γ}

theorem El.ptr {b off : Nat} {p : Ptr} (h : El A w b off p) : w.cell? ⟨b, off, none⟩ = some (.pointer (some ⟨p.b, 0, none⟩)) := by
  obtain ⟨_, _, cs, h3, h4⟩ := h
  have : cs = [.pointer (some ⟨p.b, 0, none⟩)] := h3
  subst this
  simpa using h4 0 _ rfl

theorem V_indexAddrPS {k : IntKind} {ix : Int} (hH : Hp B A w L) (hi : L[i]? = some (obPS f e v cs)) (hidx : idx cs ix = some c) (ht : P.underlying t = some (.slice e)) (hsz : ∀ w, (Go.sizeOf e).run P w = .ok 1 w)
    (hx : ev E x = some v) (hy : ev E y = some (.int k ix)) (hn : Nat.blt d n.sz = true)
    (h : ∀ b off bc, cs[ix.toNat]? = some c → w.cell? ⟨b, off, none⟩ = some (.pointer (some ⟨bc, 0, none⟩)) → Hp B A w (f bc c :: L.set i (obPX f e v cs ix.toNat bc)) → V P n ops Q rest ((d, .pointer (some ⟨b, off, none⟩)) :: E) w) :
    V P n ops Q (⟨some d, .indexAddr t x y, ty, pos, af, none⟩ :: rest) E w := by
  obtain ⟨h0, h1, h2⟩ := idx_some hidx
  obtain ⟨bc, ps, hp, hl, hs, hH'⟩ := hH.psOpen hi h2
  refine V_indexAddr (α := Ptr) (x := x) (y := y) hs (show idx ps ix = some ⟨bc⟩ by unfold idx; rw [if_pos h0]; exact hp) ht hsz hx hy hn ?_
  intro b off he
  exact h b off bc h2 he.ptr hH'
theorem VQ_indexAddrPS {k : IntKind} {ix : Int} (hH : Hp B A w L) (hi : L[i]? = some (obPS f e v cs)) (hidx : idx cs ix = some c) (ht : P.underlying t = some (.slice e)) (hsz : ∀ w, (Go.sizeOf e).run P w = .ok 1 w)
    (hx : ev E x = some v) (hy : ev E y = some (.int k ix)) (hn : Nat.blt d n.sz = true)
    (h : ∀ b off bc, cs[ix.toNat]? = some c → w.cell? ⟨b, off, none⟩ = some (.pointer (some ⟨bc, 0, none⟩)) → Hp B A w (f bc c :: L.set i (obPX f e v cs ix.toNat bc)) → VQ P n ops W QA rest ((d, .pointer (some ⟨b, off, none⟩)) :: E)) :
    VQ P n ops W QA (⟨some d, .indexAddr t x y, ty, pos, af, none⟩ :: rest) E := by
  obtain ⟨h0, h1, h2⟩ := idx_some hidx
  obtain ⟨bc, ps, hp, hl, hs, hH'⟩ := hH.psOpen hi h2
  refine VQ_indexAddr (α := Ptr) (x := x) (y := y) hs (show idx ps ix = some ⟨bc⟩ by unfold idx; rw [if_pos h0]; exact hp) ht hsz hx hy hn ?_
  intro b off he
  exact h b off bc h2 he.ptr hH'

theorem Y_lenPS {w : World} {m : Nat} {ats : Array TypeId} {ρd : Option Nat} {g : Option (Nat × Bool)} (hf : ∃ a cap, v = .slice a m cap ∧ m ≤ maxLen) (h0 : ats[0]? = some t) (ht : P.underlying t = some (.slice e)) (hx : ev E x = some v) :
    Y P n E ⟨ρd, .call ⟨.builtin .len, #[x], ats⟩, ty, pos, af, g⟩ w (.int .i64 (m : Int)) w := by
  obtain ⟨a, c, rfl, _⟩ := hf
  exact Y_lenS h0 ht hx

/-- one more: the object lies in front -/
theorem V_appendPS {bc : Nat} {r : List γ} {lim bytes : Nat} {ti : TypeInfo} {zv : Value} (hH : Hp B A w (f bc c :: L)) (hi : L[i]? = some (obPS f e v cs)) (hm : Sl A w u [(⟨bc⟩ : Ptr)]) (hr : appendL lim cs [c] = some r) (ht : P.underlying t = some (.slice e)) (hti : P.info? e = some ti) (hz : ti.zero = some zv)
    (hsize : ti.size = 1) (hby : ti.bytes = bytes) (hzs : zv.cells.size = 1) (hlim : lim * bytes ≤ 140737488355328) (hlm : lim ≤ maxLen) (hB : B ≤ w.heap.size) (hA : ∀ b, w.heap.size ≤ b → A b)
    (hx : ev E x = some v) (hy : ev E y = some u) (hn : Nat.blt d n.sz = true)
    (h : ∀ v' w1 A1, Hp B A1 w1 (L.set i (obPS f e v' r)) → Tr Dw B A w A1 w1 → V P n ops Q rest ((d, v') :: E) w1) :
    V P n ops Q (⟨some d, .call ⟨.builtin .append, #[x, y], #[t, t]⟩, ty, pos, af, none⟩ :: rest) E w := by
  obtain ⟨hle, rfl⟩ := appendL_some hr
  obtain ⟨ps, h2⟩ := Hp.open (hH.front (i := i + 1) (show (f bc c :: L)[i + 1]? = some (obPS f e v cs) by simpa using hi))
  have hl : ps.length = cs.length := by
    obtain ⟨_, ⟨_, hr⟩, _⟩ := h2.at (i := 0) rfl
    exact hr
  refine V_appendH (Dw := Dw) (α := Ptr) (l := ps) (m := [⟨bc⟩]) (r := ps ++ [⟨bc⟩]) (lim := lim) h2 (i := 1) rfl hm (by unfold appendL; rw [if_pos (by rw [hl]; simpa using hle)]) ht hti hz hsize hby hzs (by decide) hlim hlm hB hA hx hy hn ?_
  intro v' w1 A1 h3 t3
  refine h v' w1 A1 ?_ t3
  have h4 : Hp B A1 w1 (psL f e v' (cs ++ [c]) (ps ++ [⟨bc⟩]) ++ L.eraseIdx i) := by
    have h5 := (h3.drop (i := 0) rfl).free (O' := obQ ((ps ++ [(⟨bc⟩ : Ptr)]).length = (cs ++ [c]).length)) ⟨rfl, by simp [hl]⟩
    refine h5.perm ?_
    unfold psL
    have hzz : psZ f (ps ++ [⟨bc⟩]) (cs ++ [c]) = psZ f ps cs ++ [f bc c] := by
      unfold psZ
      rw [List.zipWith_append hl]
      rfl
    rw [hzz]
    refine List.Perm.cons _ (List.Perm.cons _ ?_)
    show (psZ f ps cs ++ f bc c :: L.eraseIdx i).Perm (psZ f ps cs ++ [f bc c] ++ L.eraseIdx i)
    rw [List.append_assoc]
    exact .refl _
  exact (Hp.pack (F := psL f e v' (cs ++ [c])) (ps ++ [⟨bc⟩]) h4).perm (perm_set hi)
end steps
end Go.Gw
