import Derived.Test.YtligccioljhapaaGreatDoorGt
import Derived.Laws.CopyRow
import Derived.Lib.Bytealg
namespace Go.Gw
open Go Go.RowKit Go.Pu
variable{Dw:Prop}
set_option linter.unusedSimpArgs false
set_option linter.unusedVariables false
section
variable{α:Type}[GoT α]{A:Nat→Prop}{w:World}
theorem repL.cut{cs:List Value}:∀{l:List α} (k:Nat),repL A w cs l→∃a b,cs=a++b∧repL A w a (l.take k)∧repL A w b (l.drop k)
 | l,0,h=>⟨[],cs,rfl,rfl,h⟩
 | [],k+1,h=>⟨[],cs,rfl,rfl,h⟩
 | x::l,k+1,h=>by
  obtain⟨a,b,rfl,h1,h2⟩:=h
  obtain⟨c,d,rfl,e,f⟩:=repL.cut k h2
  exact⟨a++c,d,by simp,⟨a,c,rfl,h1,e⟩,f⟩
end
section steps
variable{P:Program}{n:Fr}{ops:Array Oper}{Q:Exit→Act→World→Prop}{E:Env}{w:World}{rest:List Oper}{v u:Value}{d:Nat}
variable{ty t t2 e:TypeId}{pos:String}{af:Array Edge}{x y:Operand}{A:Nat→Prop}{α:Type}[GoT α]{B:Nat}{L:List Ob}{i:Nat}
theorem zkh{l m:List α}(a4:Hp B A w L)(hi:L[i]?=some (obS e v l))(c7:Sl A w u m)(p:GoT.cells α=1)(T:P.underlying t=some (.slice e))(U:(P.info? e).map (·.size)=some 1)(hB:B≤w.heap.size)(a5:∀z,w.heap.size≤z→A z)(a6:ev E x=some v)(a7:ev E y=some u)(a8:Nat.blt d n.sz=true)(f:∀W,Hp B A W (L.set i (obS e v (jL l m)))→Tr Dw B A w A W→V P n ops Q rest ((d,.int .i64 ((min m.length l.length:Nat):Int))::E) W):
  V P n ops Q (⟨some d,.call ⟨.builtin .copy,#[x,y],#[t,t2]⟩,ty,pos,af,none⟩::rest) E w:=by
 obtain⟨e4,hp,G,b4⟩:=a4.at hi
 obtain⟨g,D,o,a,c8,R,a3,b5,c9⟩:∃(g:Option Addr) (D o:Nat) (a:List Value),u=.slice g D o∧a.length=min m.length l.length∧repL A w a (m.take l.length)∧(∀(q:Addr),g=some q→∀j v,a[j]?=some v→w.cell? (q.add j)=some v)∧D=m.length∧(g=none→D=0∧o=0):=by
  rcases c7 with ⟨g,h,rfl,rfl,_,d0⟩|⟨z,off,h,a,rfl,d9,e0,e1,e2,b6,b9⟩
  ·exact⟨g,0,h, [],rfl,by simp,by simp[repL],fun _ _ j v H=>by simp at H,rfl,fun f=>⟨rfl,d0 f⟩⟩
  ·obtain⟨X,Z,rfl,I,a0⟩:=b6.cut l.length
   have F:=I.len
   rw[p,Nat.mul_one,List.length_take]at F
   refine⟨_,_,h,X,rfl,by rw[F,Nat.min_comm],I,fun q c0 j v H=>?_,rfl,fun f=>by cases f⟩
   cases c0
   have:=b9 j v (by rw[List.getElem?_append_left (List.getElem?_eq_some_iff.1 H).1];exact H)
   have b7:(⟨z,off,none⟩:Addr).add j=⟨z,off+j,none⟩:=by unfold Addr.add;split <;> simp_all
   rw[b7]
   exact this
 obtain⟨rfl,b8⟩:=c9
 subst c8
 have b2:∀v∈a,v.oneCell'=true:=a3.one
 rcases hp with ⟨rfl,rfl,rfl⟩|⟨b,h,c,a9,rfl,rfl,a1,b0,d1,b1,d2,d3⟩
 · -- into nil
  have N:(Builtin.copy_ #[t,t2] ty #[.slice none 0 0,.slice g m.length o]).run P w=.ok (goInt 0) w:=by
   cases J:P.info? e with
   | none=>simp[J]at U
   | some ii=>cases g <;> simp[Builtin.copy_,run_underlying T,Builtin.lenOf,Builtin.firstCells,sizeOf,typeInfo,J,loadCells,loadCellsFrom]
  refine V_y (w':=w) (v := .int .i64 ((min m.length 0:Nat):Int)) (fun d4 r=>?_) rfl rfl a8 (f w ?_ (Tr.refl a5))
  ·simp only[execOp,resolve,invoke,builtin,List.map_toArray,List.map_cons,List.map_nil,r.eval a6,r.eval a7]
   simp[N,goInt]
  ·have a2:jL ([]:List α) m=[]:=by simp[jL]
   have d5:L.set i (obS e (.slice none 0 0) (jL ([]:List α) m))=L:=by
    rw[a2]
    apply List.ext_getElem?
    intro j
    rw[List.getElem?_set]
    split
    ·rename_i hij
     subst hij
     rw[hi]
     simp[(List.getElem?_eq_some_iff.1 hi).1]
    ·rfl
   rw[d5]
   exact a4
 ·have c1:c.toList.take l.length=a9:=by rw[← d3,p,Nat.mul_one]
  have d8:l.length≤c.size:=by rw[b1,p,Nat.mul_one];exact b0
  have N:(Builtin.copy_ #[t,t2] ty #[.slice (some ⟨b,0,none⟩) l.length h,.slice g m.length o]).run P w=.ok (goInt (min m.length l.length:Nat)) (w.setRow b (a++c.toList.drop a.length).toArray):=by
   cases g with
   | some q =>
    have:=run_copy_row (P:=P) w t t2 ty e b 0 l.length h q m.length o c e a T U a1 R (b5 q rfl) (by omega) b2
    simpa [R]using this
   | none =>
    obtain⟨d6,d7⟩:=b8 rfl
    have c2:m.length=0:=d6
    subst d7
    have c3:a=[]:=List.eq_nil_of_length_eq_zero (by rw[R];omega)
    subst c3
    have:=run_copy_nil (P:=P) w t t2 ty e ⟨b,0,none⟩ l.length h T (by cases J:P.info? e with|none=>simp[J]at U|some ii=>rfl)
    rw[c2]
    have b3:=setRow_self w b c e (0,0) a1
    simp only[List.length_nil,List.nil_append,List.drop_zero,Array.toArray_toList,b3]
    simpa using this
  have O:(jL l m).length=l.length:=by simp[jL];omega
  have S:Mv Dw B A w A (w.setRow b (a++c.toList.drop a.length).toArray) (some b) :=
   ⟨rfl,rfl,rfl,by simp,fun _=>Nat.le_refl _,fun k K c4=>setRow_other w b k _ (fun e=>c4 (by rw[e])),fun k K=>by cases K;exact⟨(G b (by simp)).1,(G b (by simp)).2.2⟩,fun _ f=>f,fun _ _ f=>f,fun M s=>a5 M (by simpa using s)⟩
  refine V_y (w':=w.setRow b (a++c.toList.drop a.length).toArray) (v := .int .i64 ((min m.length l.length:Nat):Int)) (fun d4 r=>?_) rfl rfl a8 (f _ (b4 A _ (some b) (obS e (.slice (some ⟨b,0,none⟩) l.length h) (jL l m)) [b] S (fun k K=>by cases K;simp) ?_ fun M s=>⟨.inl s,(G M s).1,(G M s).2.2⟩) (S.tr hB))
  ·simp only[execOp,resolve,invoke,builtin,List.map_toArray,List.map_cons,List.map_nil,r.eval a6,r.eval a7]
   simp[N,goInt]
  ·obtain⟨X,Z,c5,I,a0⟩:=d2.cut m.length
   have F:=I.len
   rw[p,Nat.mul_one,List.length_take]at F
   refine .inr ⟨b,h,(a++c.toList.drop a.length).toArray,a++Z,by rw[O],rfl,setRow_heap w b c _ e _ a1,by rw[O];exact b0,d1,?_,?_,?_⟩
   ·have a2:((a++c.toList.drop a.length).toArray).size=a.length+(c.size-a.length):=by simp
    rw[a2, ← b1]
    omega
   ·unfold jL
    exact (a3.append a0).keep S.ex
   ·rw[O,p,Nat.mul_one]
    rw[List.take_append,List.take_of_length_le (by omega)]
    congr 1
    have:(c.toList.drop a.length).take (l.length-a.length)=a9.drop a.length:=by
     rw[← c1,List.drop_take]
    rw[this,c5]
    rw[List.drop_append,List.drop_of_length_le (by omega),List.nil_append]
    by_cases e3:m.length≤l.length
    ·rw[show a.length-X.length=0 by omega,List.drop_zero]
    ·have c6:Z.length=0:=by
      have:=a0.len
      rw[p,Nat.mul_one,List.length_drop]at this
      omega
     rw[List.eq_nil_of_length_eq_zero c6]
     simp
end steps
end Go.Gw
namespace Go.Gw
open Go Go.RowKit Go.Pu
set_option linter.unusedSimpArgs false
set_option linter.unusedVariables false
section
variable{P:Program}{n:Fr}{E:Env}{w:World}{ρd:Option Nat}{ty:TypeId}{pos:String}{af:Array Edge}{g:Option (Nat×Bool)}{v:Value}
end
end Go.Gw
