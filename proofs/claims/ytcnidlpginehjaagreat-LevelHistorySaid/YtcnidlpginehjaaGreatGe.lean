import Derived.Test.YtcnidlpginehjaaGreatGt
import Derived.Laws.CopyRow
import Derived.Lib.Bytealg
namespace Go.Gw
open Go Go.RowKit Go.Pu
variable{Dw:Prop}
set_option linter.unusedSimpArgs false
set_option linter.unusedVariables false
section
variable{α:Type}[GoT α]{A:Nat→Prop}{w:World}
theorem repL.cut{cs:List Value}:∀{l:List α} (k:Nat),repL A w cs l→∃a b,cs=a++b∧repL A w a (l.take k)∧repL A w b (l.drop k)
 | l,0,h=>⟨[],cs,rfl,rfl,h⟩
 | [],k+1,h=>⟨[],cs,rfl,rfl,h⟩
 | x::l,k+1,h=>by
  obtain⟨a,b,rfl,h1,h2⟩:=h
  obtain⟨c,d,rfl,e,f⟩:=repL.cut k h2
  exact⟨a++c,d,by simp,⟨a,c,rfl,h1,e⟩,f⟩
end
section steps
variable{P:Program}{n:Fr}{ops:Array Oper}{Q:Exit→Act→World→Prop}{E:Env}{w:World}{rest:List Oper}{v u:Value}{d:Nat}
variable{ty t t2 e:TypeId}{pos:String}{af:Array Edge}{x y:Operand}{A:Nat→Prop}{α:Type}[GoT α]{B:Nat}{L:List Ob}{i:Nat}
theorem zhR{l b:List α}(a4:Hp B A w L)(hi:L[i]?=some (obS e v l))(c7:Sl A w u b)(o:GoT.cells α=1)(S:P.underlying t=some (.slice e))(T:(P.info? e).map (·.size)=some 1)(hB:B≤w.heap.size)(a5:∀s,w.heap.size≤s→A s)(a6:ev E x=some v)(a7:ev E y=some u)(a8:Nat.blt d n.sz=true)(g:∀U,Hp B A U (L.set i (obS e v (jR l b)))→Tr Dw B A w A U→V P n ops Q rest ((d,.int .i64 ((min b.length l.length:Nat):Int))::E) U):
  V P n ops Q (⟨some d,.call ⟨.builtin .copy,#[x,y],#[t,t2]⟩,ty,pos,af,none⟩::rest) E w:=by
 obtain⟨e4,hp,F,b4⟩:=a4.at hi
 obtain⟨h,z,m,a,c8,O,a3,b5,c9⟩:∃(h:Option Addr) (z m:Nat) (a:List Value),u=.slice h z m∧a.length=min b.length l.length∧repL A w a (b.take l.length)∧(∀(p:Addr),h=some p→∀k v,a[k]?=some v→w.cell? (p.add k)=some v)∧z=b.length∧(h=none→z=0∧m=0):=by
  rcases c7 with ⟨h,j,rfl,rfl,_,d0⟩|⟨s,off,j,a,rfl,d9,e0,e1,e2,b6,b9⟩
  ·exact⟨h,0,j, [],rfl,by simp,by simp[repL],fun _ _ k v G=>by simp at G,rfl,fun g=>⟨rfl,d0 g⟩⟩
  ·obtain⟨W,X,rfl,H,Z⟩:=b6.cut l.length
   have D:=H.len
   rw[o,Nat.mul_one,List.length_take]at D
   refine⟨_,_,j,W,rfl,by rw[D,Nat.min_comm],H,fun p c0 k v G=>?_,rfl,fun g=>by cases g⟩
   cases c0
   have:=b9 k v (by rw[List.getElem?_append_left (List.getElem?_eq_some_iff.1 G).1];exact G)
   have b7:(⟨s,off,none⟩:Addr).add k=⟨s,off+k,none⟩:=by unfold Addr.add;split <;> simp_all
   rw[b7]
   exact this
 obtain⟨rfl,b8⟩:=c9
 subst c8
 have b2:∀v∈a,v.oneCell'=true:=a3.one
 rcases hp with ⟨rfl,rfl,rfl⟩|⟨c,j,f,a9,rfl,rfl,a0,b0,d1,b1,d2,d3⟩
 · -- into nil
  have M:(Builtin.copy_ #[t,t2] ty #[.slice none 0 0,.slice h b.length m]).run P w=.ok (goInt 0) w:=by
   cases I:P.info? e with
   | none=>simp[I]at T
   | some ii=>cases h <;> simp[Builtin.copy_,run_underlying S,Builtin.lenOf,Builtin.firstCells,sizeOf,typeInfo,I,loadCells,loadCellsFrom]
  refine V_y (w':=w) (v := .int .i64 ((min b.length 0:Nat):Int)) (fun d4 q=>?_) rfl rfl a8 (g w ?_ (Tr.refl a5))
  ·simp only[execOp,resolve,invoke,builtin,List.map_toArray,List.map_cons,List.map_nil,q.eval a6,q.eval a7]
   simp[M,goInt]
  ·have a1:jR ([]:List α) b=[]:=by simp[jR]
   have d5:L.set i (obS e (.slice none 0 0) (jR ([]:List α) b))=L:=by
    rw[a1]
    apply List.ext_getElem?
    intro k
    rw[List.getElem?_set]
    split
    ·rename_i hij
     subst hij
     rw[hi]
     simp[(List.getElem?_eq_some_iff.1 hi).1]
    ·rfl
   rw[d5]
   exact a4
 ·have c1:f.toList.take l.length=a9:=by rw[← d3,o,Nat.mul_one]
  have d8:l.length≤f.size:=by rw[b1,o,Nat.mul_one];exact b0
  have M:(Builtin.copy_ #[t,t2] ty #[.slice (some ⟨c,0,none⟩) l.length j,.slice h b.length m]).run P w=.ok (goInt (min b.length l.length:Nat)) (w.setRow c (a++f.toList.drop a.length).toArray):=by
   cases h with
   | some p =>
    have:=run_copy_row (P:=P) w t t2 ty e c 0 l.length j p b.length m f e a S T a0 O (b5 p rfl) (by omega) b2
    simpa [O]using this
   | none =>
    obtain⟨d6,d7⟩:=b8 rfl
    have c2:b.length=0:=d6
    subst d7
    have c3:a=[]:=List.eq_nil_of_length_eq_zero (by rw[O];omega)
    subst c3
    have:=run_copy_nil (P:=P) w t t2 ty e ⟨c,0,none⟩ l.length j S (by cases I:P.info? e with|none=>simp[I]at T|some ii=>rfl)
    rw[c2]
    have b3:=setRow_self w c f e (0,0) a0
    simp only[List.length_nil,List.nil_append,List.drop_zero,Array.toArray_toList,b3]
    simpa using this
  have N:(jR l b).length=l.length:=by simp[jR];omega
  have R:Mv Dw B A w A (w.setRow c (a++f.toList.drop a.length).toArray) (some c) :=
   ⟨rfl,rfl,rfl,by simp,fun _=>Nat.le_refl _,fun a2 J c4=>setRow_other w c a2 _ (fun e=>c4 (by rw[e])),fun a2 J=>by cases J;exact⟨(F c (by simp)).1,(F c (by simp)).2.2⟩,fun _ g=>g,fun _ _ g=>g,fun K r=>a5 K (by simpa using r)⟩
  refine V_y (w':=w.setRow c (a++f.toList.drop a.length).toArray) (v := .int .i64 ((min b.length l.length:Nat):Int)) (fun d4 q=>?_) rfl rfl a8 (g _ (b4 A _ (some c) (obS e (.slice (some ⟨c,0,none⟩) l.length j) (jR l b)) [c] R (fun a2 J=>by cases J;simp) ?_ fun K r=>⟨.inl r,(F K r).1,(F K r).2.2⟩) (R.tr hB))
  ·simp only[execOp,resolve,invoke,builtin,List.map_toArray,List.map_cons,List.map_nil,q.eval a6,q.eval a7]
   simp[M,goInt]
  ·obtain⟨W,X,c5,H,Z⟩:=d2.cut b.length
   have D:=H.len
   rw[o,Nat.mul_one,List.length_take]at D
   refine .inr ⟨c,j,(a++f.toList.drop a.length).toArray,a++X,by rw[N],rfl,setRow_heap w c f _ e _ a0,by rw[N];exact b0,d1,?_,?_,?_⟩
   ·have a1:((a++f.toList.drop a.length).toArray).size=a.length+(f.size-a.length):=by simp
    rw[a1, ← b1]
    omega
   ·unfold jR
    exact (a3.append Z).keep R.ex
   ·rw[N,o,Nat.mul_one]
    rw[List.take_append,List.take_of_length_le (by omega)]
    congr 1
    have:(f.toList.drop a.length).take (l.length-a.length)=a9.drop a.length:=by
     rw[← c1,List.drop_take]
    rw[this,c5]
    rw[List.drop_append,List.drop_of_length_le (by omega),List.nil_append]
    by_cases e3:b.length≤l.length
    ·rw[show a.length-W.length=0 by omega,List.drop_zero]
    ·have c6:X.length=0:=by
      have:=Z.len
      rw[o,Nat.mul_one,List.length_drop]at this
      omega
     rw[List.eq_nil_of_length_eq_zero c6]
     simp
end steps
end Go.Gw
namespace Go.Gw
open Go Go.RowKit Go.Pu
set_option linter.unusedSimpArgs false
set_option linter.unusedVariables false
section
variable{P:Program}{n:Fr}{E:Env}{w:World}{ρd:Option Nat}{ty:TypeId}{pos:String}{af:Array Edge}{g:Option (Nat×Bool)}{v:Value}
end
end Go.Gw
