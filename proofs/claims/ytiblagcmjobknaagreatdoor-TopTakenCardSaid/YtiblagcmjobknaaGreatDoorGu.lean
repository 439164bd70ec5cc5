import Derived.Test.YtiblagcmjobknaaGreatDoorGq
namespace Go.Gw
open Go Go.RowKit Go.Pu
variable {Dw : Prop}
set_option linter.unusedSimpArgs false
set_option linter.unusedVariables false
section
variable {P : Program} {ops : Array Oper} {md : Region.Mode}
def chZ (Dw : Prop) (P : Program) (ops : Array Oper) (ro : Option Nat) (A : Nat → Prop) (T : Act → World → Prop) (z : Nat) (c2 : List (Nat × Nat)) : List (Nat × Nat) → Act → World → Prop
 | [], a, w => chOK Dw P ops ro A T ((2, z) :: c2) a w
 | (b, i) :: c, a, w => if b < 2 then qOp P ops (fun w' => cls Dw A b w w') i (fun a' => chZ Dw P ops ro A T z c2 c a' w) a
  else chOK Dw P ops ro A T ((2, z) :: (b, i) :: (c ++ c2)) a w ∧ wpOpIn (FR ro) 0 P ops QF i (fun a' w' => sw Dw A b w w' ∧ chZ Dw P ops ro A T z c2 c a' w') a w
theorem zko {ro : Option Nat} {A : Nat → Prop} {T : Act → World → Prop} {n i bi z : Nat} (hbi : bi < 2) {post c2 : List (Nat × Nat)} {w : World} {oi : Oper} (hsel : Region.noSelect ops = true) (ho : ops[i]? = some oi) (hpi : je oi = true) :
  ∀ (pre : List (Nat × Nat)) (a : Act), ChP md ops n (pre ++ (bi, i) :: (post ++ c2)) → (∀ y ∈ pre, y.1 < 2) → (∀ e ∈ oi.after, Region.binds md e = true → e.on ∉ idxs (pre ++ (bi, i) :: (post ++ c2))) → chZ Dw P ops ro A T z c2 (pre ++ (bi, i) :: post) a w →
   qOp P ops (fun w' => w' = w) i (fun a' => chZ Dw P ops ro A T z c2 (pre ++ post) a' w) a
 | [], a, _, _, _, h => by
  have h1 : qOp P ops (fun w' => cls Dw A bi w w') i (fun a' => chZ Dw P ops ro A T z c2 post a' w) a := by
   simp only [List.nil_append, chZ, if_pos hbi] at h
   exact h
  obtain ⟨v, hy, hK⟩ := yieldsIn_of_qOp ho h1
  exact (Jy hpi (fun w' e => by subst e; exact zay) hy).qOp ho hK
 | (b, x) :: pre, a, hg, hq, hno, h => by
  have hb : b < 2 := hq (b, x) (by simp)
  obtain ⟨_, _, ⟨ox, hox, _, _, h4⟩, h5⟩ := hg
  have hap' : ox.apart ops oi = true := (zdt (n := n) (b := bi) (c := pre ++ (bi, i) :: (post ++ c2)) hox ho (by simp) (fun e he hb hm => hno e he hb (by simpa [idxs] using hm)) (h4 hb).2).1
  have h6 : qOp P ops (fun w' => cls Dw A b w w') x (fun a' => chZ Dw P ops ro A T z c2 (pre ++ (bi, i) :: post) a' w) a := by
   simp only [List.cons_append, chZ, if_pos hb] at h
   exact h
  obtain ⟨v, hy, hK⟩ := yieldsIn_of_qOp hox h6
  have ih := zko hbi hsel ho hpi pre _ h5 (fun y hy => hq y (List.mem_cons_of_mem _ hy)) (fun e he hb hm => hno e he hb (by simp only [List.cons_append, idxs, List.map_cons, List.mem_cons]; exact .inr hm)) hK
  have hy' : YieldsIn P ops (fun w' => w' = w) ox v a := Jy (h4 hb).1 (fun w' e => by subst e; exact zay) hy
  have h7 := qOp_put ho hap' (fun cs b => Region.noSelect_spec hsel x ox cs b hox) (fun cs b => Region.noSelect_spec hsel i oi cs b ho) hy' ih
  obtain ⟨v2, hy2, hK2⟩ := yieldsIn_of_qOp ho h7
  refine hy2.qOp ho ?_
  obtain ⟨h8, h9, h10⟩ := Oper.apart_spec hap'
  show chZ Dw P ops ro A T z c2 ((b, x) :: (pre ++ post)) _ w
  simp only [chZ, if_pos hb]
  refine YieldsIn.qOp hox ?_ hK2.2
  exact hy.of_same (execOp_put ox (fun cs b => Region.noSelect_spec hsel x ox cs b hox) a oi.dst v2 h10) (wanted_put ox a oi.dst v2 h10)
theorem zgN {n i : Nat} {c2 : List (Nat × Nat)} : ∀ (c : List (Nat × Nat)), ChP md ops n (c ++ c2) → i ∈ idxs c → (∃ o, ops[i]? = some o ∧ ∀ e ∈ o.after, Region.binds md e = true → e.on ∉ idxs (c ++ c2)) →
  ∃ pre b post, c = pre ++ (b, i) :: post ∧ ∀ y ∈ pre, y.1 < 2
 | [], _, hi, _ => by simp [idxs] at hi
 | (b, x) :: c, hg, hi, ⟨o, ho, hdep⟩ => by
  by_cases hx : x = i
  ·subst hx
   exact ⟨[], b, c, rfl, by simp⟩
  ·have hi' : i ∈ idxs c := by
    simp only [idxs, List.map_cons, List.mem_cons] at hi
    exact hi.resolve_left fun e => hx e.symm
   obtain ⟨_, _, ⟨ox, hox, _, h3, _⟩, h5⟩ := hg
   have hb : b < 2 := by
    rcases Nat.lt_or_ge b 2 with h | h
    ·exact h
    ·obtain ⟨oj, hoj, e, he, hbd, hon⟩ := (h3 h).2 i (by show i ∈ idxs (c ++ c2); rw [zab]; exact List.mem_append_left _ hi')
     have := Option.some.inj (ho.symm.trans hoj)
     subst this
     exact absurd (by simp only [List.cons_append, idxs, List.map_cons, List.mem_cons]; exact hon) (hdep e he hbd)
   obtain ⟨pre, b', post, rfl, hq⟩ := zgN c h5 hi' ⟨o, ho, fun e he hbd hm => hdep e he hbd (by simp only [List.cons_append, idxs, List.map_cons, List.mem_cons]; exact .inr hm)⟩
   exact ⟨(b, x) :: pre, b', post, rfl, fun y hy => by
    rcases List.mem_cons.1 hy with rfl | hy
    ·exact hb
    ·exact hq y hy⟩
theorem zjx {listed : Array Bool} (q1 : ∀ i, i < ops.size → listed.getD i false = true) : Region.ready md ops listed = [] := by
 refine List.eq_nil_iff_forall_not_mem.2 fun i hi => ?_
 obtain ⟨hui, o, ho, _⟩ := mem_ready.1 hi
 have h1 := q1 i (Array.getElem?_eq_some_iff.1 ho).1
 rw [getD_both hui] at h1
 cases h1
def chzB (md : Region.Mode) (ops : Array Oper) (z : Nat) (c1 c2 : List (Nat × Nat)) : Bool :=
 Region.noSelect ops && decide (c1.length + c2.length + 1 = ops.size) && chG md ops ops.size (c1 ++ c2) && ((List.range ops.size).all fun i => (i == z) || (idxs (c1 ++ c2)).contains i) && !(idxs (c1 ++ c2)).contains z &&
  (match ops[z]? with
  | none => false
  | some oz => !JI oz && (oz.after.all fun e => !Region.binds md e) && c1.all fun p => decide (2 ≤ p.1) || match ops[p.2]? with
   | none => false
   | some o => o.apart ops oz && je o) &&
  (idxs c2).all fun j => match ops[j]? with
   | none => false
   | some oj => oj.after.any fun e => Region.binds md e && (e.on == z || (idxs c2).contains e.on)
def CHZ (Dw : Prop) (P : Program) (nn : Fr) (ops : Array Oper) (A : Nat → Prop) (T : Act → World → Prop) (z : Nat) (c2 c : List (Nat × Nat)) (E : Env) (w : World) : Prop := ∀ a, Has nn a E → chZ Dw P ops nn.ro A T z c2 c a w
end
section
variable {P : Program} {nn : Fr} {Q : Exit → Act → World → Prop} {A : Nat → Prop} {T : Act → World → Prop} {E : Env} {w w0 : World} {l tl r : List Oper} {o : Oper} {c c2 : List (Nat × Nat)} {i n id z : Nat}
end
section
variable {P : Program} {n : Fr} {ops : Array Oper} {Q : Exit → Act → World → Prop} {rest : List Oper} {E : Env} {w : World} {B : Nat} {A : Nat → Prop} {L : List Ob} {d ty t : Nat} {pos : String} {af : Array Edge}
end
end Go.Gw
