import Derived.Test.YtligccioljhapaaGreatDoorGm
namespace Go.Gw
open Go Go.RowKit Go.Pu
variable{Dw:Prop}
set_option linter.unusedSimpArgs false
set_option linter.unusedVariables false
structure Mv(Dw:Prop)(B:Nat)(A:Nat→Prop)(w:World)(A1:Nat→Prop)(w1:World)(ob:Option Nat):Prop where
 os:w1.os=w.os
 tape:w1.tape=w.tape
 output:w1.output=w.output
 size:w.heap.size≤w1.heap.size
 dr:Dw→w.drawn≤w1.drawn
 blk:∀k,k<w.heap.size→some k≠ob→w1.heap[k]?=w.heap[k]?
 old:∀k,ob=some k→B≤k∧¬A k
 sub:∀k,A1 k→A k
 sup:∀k,k<w.heap.size→A k→A1 k
 new:∀b,w1.heap.size≤b→A1 b
structure Tr(Dw:Prop)(B:Nat)(A:Nat→Prop)(w:World)(A1:Nat→Prop)(w1:World):Prop where
 ex:Ex A w A1 w1
 below:Bel Dw B w w1
 sub:∀k,A1 k→A k∨B≤k
 new:∀b,w1.heap.size≤b→A1 b
theorem Mv.ex{B:Nat}{A A1:Nat→Prop}{w w1:World}{ob:Option Nat}(a:Mv Dw B A w A1 w1 ob):Ex A w A1 w1 :=
 ⟨a.size,fun k b c=>⟨a.sup k b c,a.blk k b fun e=>(a.old k e.symm).2 c⟩⟩
theorem Mv.tr{B:Nat}{A A1:Nat→Prop}{w w1:World}{ob:Option Nat}(a:Mv Dw B A w A1 w1 ob)(hB:B≤w.heap.size):Tr Dw B A w A1 w1 :=
 ⟨a.ex,⟨a.os,a.tape,a.output,a.size,a.dr,fun k b=>a.blk k (by omega) fun e=>by have:=(a.old k e.symm).1;omega⟩,fun k b=>.inl (a.sub k b),a.new⟩
theorem Mv.kp{B:Nat}{A:Nat→Prop}{w w1:World}(a:Kp Dw w w1)(d:∀c,w.heap.size≤c→A c):Mv Dw B A w A w1 none :=
 ⟨a.os,a.tape,a.output,a.size,a.dr,fun k b _=>a.block k b,(fun _ b=>by cases b),fun _ b=>b,fun _ _ b=>b,fun c e=>d c (Nat.le_trans a.size e)⟩
theorem Tr.refl{B:Nat}{A:Nat→Prop}{w:World}(c:∀b,w.heap.size≤b→A b):Tr Dw B A w A w :=
 ⟨⟨Nat.le_refl _,fun _ _ a=>⟨a,rfl⟩⟩,Bel.refl _ _,fun _ a=>.inl a,c⟩
theorem Tr.trans{B:Nat}{A A1 e:Nat→Prop}{w w1 f:World}(a:Tr Dw B A w A1 w1)(k:Tr Dw B A1 w1 e f):Tr Dw B A w e f :=
 ⟨⟨Nat.le_trans a.ex.size k.ex.size,fun b c g=>by
   obtain⟨h,i⟩:=a.ex.block b c g
   obtain⟨j,l⟩:=k.ex.block b (Nat.lt_of_lt_of_le c a.ex.size) h
   exact⟨j,l.trans i⟩⟩,a.below.trans k.below,fun b c=>by
   rcases k.sub b c with d|d
   ·exact a.sub b d
   ·exact .inr d,k.new⟩
theorem Tr.step{B:Nat}{A A1 a:Nat→Prop}{w w1 b:World}{ob:Option Nat}(c:Tr Dw B A w A1 w1)(k:Mv Dw B A1 w1 a b ob)(hB:B≤w1.heap.size):Tr Dw B A w a b:=c.trans (k.tr hB)
theorem Tr.hB{A A1:Nat→Prop}{w0 w:World}(a:Tr Dw w0.heap.size A w0 A1 w):w0.heap.size≤w.heap.size:=a.below.size
theorem Sl.mv{α:Type}[GoT α]{B:Nat}{A A1:Nat→Prop}{w w1:World}{ob:Option Nat}{v:Value}{l:List α}(a:Sl A w v l)(m:Mv Dw B A w A1 w1 ob):Sl A1 w1 v l:=a.keep m.ex
theorem Sl.tr{α:Type}[GoT α]{B:Nat}{A A1:Nat→Prop}{w w1:World}{v:Value}{l:List α}(a:Sl A w v l)(m:Tr Dw B A w A1 w1):Sl A1 w1 v l:=a.keep m.ex
theorem El.mv{α:Type}[GoT α]{B:Nat}{A A1:Nat→Prop}{w w1:World}{ob:Option Nat}{b off:Nat}{x:α}(a:El A w b off x)(m:Mv Dw B A w A1 w1 ob):El A1 w1 b off x:=a.keep m.ex
theorem El.tr{α:Type}[GoT α]{B:Nat}{A A1:Nat→Prop}{w w1:World}{b off:Nat}{x:α}(a:El A w b off x)(m:Tr Dw B A w A1 w1):El A1 w1 b off x:=a.keep m.ex
theorem Sl.out{α:Type}[GoT α]{a A:Nat→Prop}{w0 w:World}{v:Value}{l:List α}(e:Sl A w v l)(c:∀b,w0.heap.size≤b→a b)(t:Tr Dw w0.heap.size a w0 A w):Sl a w v l :=
 e.keep (.sub fun k _ d=>(t.sub k d).elim id (c k))
def Ow{α:Type}[GoT α](e:TypeId)(B:Nat)(A:Nat→Prop)(w:World)(v:Value)(l:List α):Prop :=
 (v=.slice none 0 0∧l=[])∨
 ∃g cap cur cs,v=.slice (some ⟨g,0,none⟩) l.length cap∧B≤g∧¬A g∧w.heap[g]?=some (.cells cur e (0,0))∧l.length≤cap∧cap≤maxLen∧cur.size=cap*GoT.cells α∧repL A w cs l∧cur.toList.take (l.length*GoT.cells α)=cs
def Dj(v:Value)(ob:Option Nat):Prop:=∀g,v.ownBlock=some g→some g≠ob
section
variable{α:Type}[GoT α]{A A1:Nat→Prop}{w w1:World}{e:TypeId}{B:Nat}{v u:Value}{l:List α}{ob:Option Nat}
theorem Ow.nil:Ow e B A w (.slice none 0 0) ([]:List α) := .inl ⟨rfl,rfl⟩
theorem Ow.mv(a:Ow e B A w v l)(m:Mv Dw B A w A1 w1 ob)(f:Dj v ob):Ow e B A1 w1 v l:=by{rcases a with a|⟨g,c,d,h,rfl,i,j,b,n,o,p,q,r⟩;exact .inl a;exact .inr ⟨g,c,d,h,rfl,i,fun a=>j (m.sub g a),by rw[m.blk g (Array.getElem?_eq_some_iff.1 b).1 (f g rfl)];exact b,n,o,p,q.keep m.ex,r⟩}
theorem Ow.form(b:Ow e B A w v l):∃c a,v=.slice c l.length a∧l.length≤maxLen:=by{rcases b with ⟨rfl,rfl⟩|⟨g,a,d,f,rfl,h,i,j,m,n,o,p,q⟩;exact⟨none,0,rfl,Nat.zero_le _⟩;exact⟨_,_,rfl,by omega⟩}
theorem Ow.le(a:Ow e B A w v l):l.length≤maxLen:=let ⟨_,_,_,a⟩:=a.form;a
theorem Ow.lt(c:Ow e B A w v l):∀g,v.ownBlock=some g→g<w.heap.size:=by{intro g a;rcases c with ⟨rfl,rfl⟩|⟨h,d,f,i,rfl,j,m,b,n,o,p,q,r⟩;simp[Value.ownBlock]at a;simp[Value.ownBlock]at a;subst a;exact (Array.getElem?_eq_some_iff.1 b).1}
theorem Ow.sl{b:Nat→Prop}(q:Ow e B A w v l)(f:∀k,A k→b k)(h:∀g,v.ownBlock=some g→b g):Sl b w v l:=by{rcases q with ⟨rfl,rfl⟩|⟨g,d,r,i,rfl,s,t,c,j,m,x,n,o⟩;exact Sl.nil;refine .inr ⟨g,0,d,i,rfl,h g rfl,(Array.getElem?_eq_some_iff.1 c).1,j,m,n.keep (.sub fun k _ p=>f k p),?_⟩;intro y u a;rw[← o]at a;rw[List.getElem?_take]at a;split at a;simp only[World.cell?,c,Nat.zero_add];simpa using a;cases a}
theorem Ow.any(a:Ow e B A w v l):Sl (fun _=>True) w v l:=a.sl (fun _ _=>trivial) (fun _ _=>trivial)
theorem Ow.out{a:Nat→Prop}{w0:World}(d:Ow e w0.heap.size A w v l)(c:∀f,w0.heap.size≤f→a f)(t:Tr Dw w0.heap.size a w0 A w):Sl a w v l :=
 d.sl (fun k h=>(t.sub k h).elim id (c k)) fun g b=>by
  rcases d with ⟨rfl,rfl⟩|⟨n,j,m,o,rfl,i,p,q,r,s,u,x,y⟩
  ·simp[Value.ownBlock]at b
  ·simp[Value.ownBlock]at b
   subst b
   exact c _ i
theorem Dj.no:Dj v none:=fun _ _ a=>by cases a
theorem Dj.nil:Dj (.slice none 0 0) ob:=fun _ a=>by simp[Value.ownBlock]at a
theorem Dj.symm(b:Dj v u.ownBlock):Dj u v.ownBlock:=fun g a e=>b g e.symm a.symm
end
theorem zfB{α:Type}{lim:Nat}{l m r:List α}(a:zE lim l m=some r):l.length+m.length≤lim∧r=l++m:=by{unfold zE at a;split at a;rename_i h1;exact⟨h1,(Option.some.inj a).symm⟩;cases a}
section
variable{P:Program}
theorem ziw(w:World)(base:Nat)(t ty e:TypeId)(i:TypeInfo)(z:Value)(size bytes:Nat)(s:P.underlying t=some (.slice e))(hi:P.info? e=some i)(J:i.zero=some z)(L:i.size=size)(R:i.bytes=bytes)(S:z.cells.size=size)(a4:0<size)(v:Value)(n:Nat)(xs:List Value)(j:w.ownsRow base e size v n xs)(a:Addr)(m c:Nat)(b:List Value)(f:b.length=m*size)(y:∀q u,b[q]?=some u→w.cell? (a.add q)=some u)(X:∀u∈b,u.oneCell'=true)(I:n+m≤maxLen)(G:(n+m)*bytes≤140737488355328)(M:base≤w.heap.size):
  ∃E x,(Builtin.append_ #[t,t] ty #[v,.slice (some a) m c]).run P w=.ok E x∧x.ownsRow base e size E (n+m) (xs++b)∧w.grownBy x v.ownBlock∧
   (∀g,E.ownBlock=some g→v.ownBlock=some g∨w.heap.size≤g)∧w.drawn≤x.drawn:=by{
 subst L;subst R;have a3:n+m≤9223372036854775807:=by simp only[maxLen]at I;omega
 have r:(xs++b).length=(n+m)*i.size:=by rw[List.length_append,j.1,f,Nat.add_mul]
 have H:∀(d:Nat),d<n+m→∀(row:Option Nat),
   (w.drew.alloc (.cells (xs.toArray++b.toArray++Builtin.zeroCells z.cells (grownCap w (n+m) d e-(n+m))) e)).ownsRow base e i.size
    (.slice (some ⟨w.heap.size,0,none⟩) (n+m) (grownCap w (n+m) d e)) (n+m) (xs++b)∧
   w.grownBy (w.drew.alloc (.cells (xs.toArray++b.toArray++Builtin.zeroCells z.cells (grownCap w (n+m) d e-(n+m))) e)) row:=by
  intro d a6 row
  have T:=grownCap_ge w (n+m) d e
  have B:grownCap w (n+m) d e≤maxLen:=grownCap_le_maxLen w (n+m) d e I
  refine⟨⟨r,.inr ⟨w.heap.size,_,_,rfl,M,heap_alloc_new w.drew _,T,B,?_,?_⟩⟩,⟨rfl,rfl,rfl,by simp,fun k F _=>heap_alloc_old w.drew _ F⟩⟩
  ·simp only[Array.size_append,List.size_toArray,size_zeroCells,S,j.1,f, ← Nat.add_mul]
   congr 1
   omega
  ·simp only[Array.toList_append,List.append_assoc]
   rw[← List.append_assoc, ← r]
   exact List.take_left
 rcases j.2 with ⟨rfl,rfl⟩|⟨g,l,D,rfl,U,K,a5,B,W,N⟩;have Z:xs=[]:=List.eq_nil_of_length_eq_zero (by simpa using j.1);subst Z;by_cases a0:m=0;subst a0;have a1:b=[]:=List.eq_nil_of_length_eq_zero (by simpa using f);subst a1;refine⟨.slice none 0 0,w,?_,World.ownsRow_nil w base e i.size,⟨rfl,rfl,rfl,Nat.le_refl _,fun _ _ _=>rfl⟩,fun g h=>.inl h,Nat.le_refl _⟩;simp[Builtin.append_,run_underlying s,sizeOf,typeInfo,hi,Builtin.lenOf,Builtin.firstCells,loadCells,loadCellsFrom];have p:=run_append_nil (P:=P) w t ty e i z s hi J a m c b f y (by omega) (by omega) (by have hb:=G;simp only[Nat.zero_add]at hb;omega);have o:=H 0 (by omega) (Value.ownBlock (.slice none 0 0));simp only[Nat.zero_add,List.nil_append,Array.empty_append]at o ⊢;exact⟨_,_,p,o.1,o.2,fun g h=>.inr (by simp[Value.ownBlock]at h;omega),Nat.le_succ _⟩;by_cases A:n+m≤l;have Q:n*i.size+b.length≤D.size:=by rw[f,W, ← Nat.add_mul];exact Nat.mul_le_mul_right _ A
 have p:=run_append_room (P:=P) w t ty e i s hi g n l D K a m c b f y X A Q;refine⟨_,_,p,⟨r,.inr ⟨g,l,_,rfl,U,setRow_heap w g D _ e _ K,A,B,?_,?_⟩⟩,⟨rfl,rfl,rfl,by simp,fun k _ F=>setRow_other w g k _ (fun e=>F (by simp[Value.ownBlock,e]))⟩,fun a2 h=>.inl h,Nat.le_refl _⟩;simp only[List.size_toArray,List.length_append,List.length_take,List.length_drop,Array.length_toList];omega;rw[N, ← r];exact List.take_left;have O:∀q u,xs[q]?=some u→w.cell? ((⟨g,0,none⟩:Addr).add q)=some u:=j.cells (g:=g) rfl;have p:=run_append_grow (P:=P) w t ty e i z s hi J ⟨g,0,none⟩ n l xs j.1 O a m c b f y (by omega) (by omega) (growslice_fits (by omega) G);have o:=H l (by omega) (Value.ownBlock (.slice (some ⟨g,0,none⟩) n l));exact⟨_,_,p,o.1,o.2,fun a2 h=>.inr (by simp[Value.ownBlock]at h;omega),Nat.le_succ _⟩}
end
section steps
variable{P:Program}{n:Fr}{ops:Array Oper}{Q:Exit→Act→World→Prop}{E:Env}{w:World}{rest:List Oper}{v u:Value}{d:Nat}{W:World→Prop}{QA:Act→Prop}
variable{ty t e:TypeId}{pos:String}{af:Array Edge}{x y z:Operand}{A:Nat→Prop}{α:Type}[GoT α]{ρd:Option Nat}{g:Option (Nat×Bool)}{B:Nat}
theorem Ow.row{l:List α}(a:Ow e B A w v l):∃b,w.ownsRow B e (GoT.cells α) v l.length b∧repL A w b l∧∀g,v.ownBlock=some g→¬A g:=by{rcases a with ⟨rfl,rfl⟩|⟨g,d,f,h,rfl,i,j,m,n,o,p,c,q⟩;exact⟨[],World.ownsRow_nil _ _ _ _,rfl,fun g a=>by simp[Value.ownBlock]at a⟩;refine⟨h,⟨c.len,.inr ⟨g,d,f,rfl,i,m,n,o,p,q⟩⟩,c,fun r a=>?_⟩;simp[Value.ownBlock]at a;subst a;exact j}
theorem Ow.of_row{l:List α}{xs:List Value}(a:w.ownsRow B e (GoT.cells α) v l.length xs)(d:repL A w xs l)(f:∀g,v.ownBlock=some g→¬A g):Ow e B A w v l:=by{obtain⟨q,h⟩:=a;rcases h with ⟨rfl,a⟩|⟨g,b,c,rfl,i,j,m,n,o,p⟩;exact .inl ⟨rfl,List.eq_nil_of_length_eq_zero a⟩;exact .inr ⟨g,b,c,xs,rfl,i,f g rfl,j,m,n,o,d,p⟩}
theorem zjt{l m r:List α}{lim bytes:Nat}{i:TypeInfo}{D:Value}(S:Ow e B A w v l)(b3:Sl A w u m)(b4:zE lim l m=some r)(F:P.underlying t=some (.slice e))(hi:P.info? e=some i)(b5:i.zero=some D)(X:i.size=GoT.cells α)(a4:i.bytes=bytes)(a5:D.cells.size=GoT.cells α)(a6:GoT.cells α≠0)(a0:lim*bytes≤140737488355328)(a7:lim≤maxLen)(hB:B≤w.heap.size)(b6:∀b,w.heap.size≤b→A b)(b7:ev E x=some v)(b8:ev E y=some u)(b9:Nat.blt d n.sz=true)(o:∀a w1 A1,Ow e B A1 w1 a r→Mv Dw B A w A1 w1 v.ownBlock→(∀g,a.ownBlock=some g→v.ownBlock=some g∨w.heap.size≤g)→V P n ops Q rest ((d,a)::E) w1):
  V P n ops Q (⟨some d,.call ⟨.builtin .append,#[x,y],#[t,t]⟩,ty,pos,af,none⟩::rest) E w:=by
 obtain⟨J,rfl⟩:=zfB b4
 obtain⟨G,q,a1,K⟩:=S.row
 have a2:∃a w1,(Builtin.append_ #[t,t] ty #[v,u]).run P w=.ok a w1∧(∃h,w1.ownsRow B e (GoT.cells α) a (l.length+m.length) (G++h)∧repL A w h m)∧w.grownBy w1 v.ownBlock∧(∀g,a.ownBlock=some g→v.ownBlock=some g∨w.heap.size≤g)∧w.drawn≤w1.drawn:=by
  rcases b3 with ⟨I,L,rfl,rfl,c7,c8⟩|⟨b,off,L,H,rfl,T,c9,d0,d1,s,a8⟩
  · -- nothing to append
   refine⟨v,w,?_,⟨[],?_,rfl⟩,⟨rfl,rfl,rfl,Nat.le_refl _,fun _ _ _=>rfl⟩,fun g o=>.inl o,Nat.le_refl _⟩
   ·have Z:∃base p,v=.slice base l.length p∧l.length≤p:=by
     rcases S with ⟨rfl,rfl⟩|⟨g,p,d2,H,rfl,_,_,_,j,_⟩
     ·exact⟨none,0,rfl,Nat.le_refl _⟩
     ·exact⟨_,_,rfl,j⟩
    obtain⟨base,p,rfl,U⟩:=Z
    clear o
    cases I with
    | none=>simp[Builtin.append_,run_underlying F,sizeOf,typeInfo,hi,Builtin.lenOf,U,Builtin.firstCells];cases base <;> simp[storeCells]
    | some I=>simp[Builtin.append_,run_underlying F,sizeOf,typeInfo,hi,Builtin.lenOf,U,Builtin.firstCells,loadCells,loadCellsFrom];cases base <;> simp[storeCells]
   ·simpa using q
  ·obtain⟨a,w1,c0,c1,c2,c3⟩:=ziw (P:=P) w B t ty e i D (GoT.cells α) bytes F hi b5 X a4 a5 (Nat.pos_of_ne_zero a6) v l.length G q ⟨b,off,none⟩ m.length L H s.len (fun c6 u c4=>by rw[zdZ];exact a8 c6 u c4) s.one
    (Nat.le_trans J a7) (Nat.le_trans (Nat.mul_le_mul_right _ J) a0) hB
   exact⟨a,w1,c0,⟨H,c1,s⟩,c2,c3⟩
 obtain⟨a,w1,a3,⟨h,M,a9⟩,f,N,b0⟩:=a2
 have O:Mv Dw B A w (fun b=>A b∧a.ownBlock≠some b) w1 v.ownBlock:=by
  refine⟨f.os,f.tape,f.output,f.size,fun _=>b0,fun k c b1=>f.block k c b1,fun k c=>?_,fun k c=>c.1,fun k c W=>⟨W,fun z=>?_⟩,fun b T=>⟨b6 b (Nat.le_trans f.size T),fun z=>?_⟩⟩
  ·refine⟨?_,K k c⟩
   exact (q.lt k c).1
  ·rcases N k z with j|j
   ·exact K k j W
   ·omega
  ·have:=(M.lt b z).2
   omega
 refine V_y (v:=a) (w':=w1) (fun I R=>?_) rfl rfl b9 (o a w1 _ (Ow.of_row (l:=l++m) (xs:=G++h) (by rw[List.length_append];exact M) ((a1.append a9).keep O.ex) fun g c5 b2=>b2.2 c5) O N)
 simp only[execOp,resolve,invoke,builtin,List.map_toArray,List.map_cons,List.map_nil,R.eval b7,R.eval b8]
 simp[a3]
omit [GoT α] in
theorem zkG{lim:Nat}{k:Int}{b:α}{r:List α}(a:ji lim k b=some r):0≤k∧k.toNat≤lim∧r=List.replicate k.toNat b:=by{unfold ji at a;split at a;rename_i h1;exact⟨h1.1,h1.2,(Option.some.inj a).symm⟩;cases a}
theorem zeE{zz:α}{cs:List Value}(hz:GoT.rep A w cs zz):∀k,repL A w (List.replicate k cs).flatten (List.replicate k zz)
 | 0=>rfl
 | k+1=>by
  rw[List.replicate_succ,List.replicate_succ,List.flatten_cons,repL]
  exact⟨_,_,rfl,hz,zeE hz k⟩
theorem zhL(a:Array Value):∀k,(madeCells a (k*a.size)).toList=(List.replicate k a.toList).flatten:=by{
 intro k;apply List.ext_getElem?;intro b;simp only[madeCells,Array.toList_map,Array.toList_range];rcases Nat.lt_or_ge b (k*a.size)with d|d
 have f:0<a.size:=by
  rcases Nat.eq_zero_or_pos a.size with c|c
  rw[c]at d;omega
  exact c
 have e:∀(k b:Nat),b<k*a.size→(List.replicate k a.toList).flatten[b]?=some a[b % a.size]! := by
  intro k
  induction k with
  | zero=>intro b d;omega
  | succ k ih =>
   intro b d
   rw[List.replicate_succ,List.flatten_cons]
   rcases Nat.lt_or_ge b a.size with c|c
   rw[List.getElem?_append_left (by simpa using c),Nat.mod_eq_of_lt c]
   simp[c]
   rw[List.getElem?_append_right (by simpa using c)]
   have:(k+1)*a.size=k*a.size+a.size:=Nat.succ_mul _ _
   rw[Array.length_toList,ih (b-a.size) (by omega),Nat.mod_eq_sub_mod c]
 rw[e k b d];simp[d];rw[List.getElem?_eq_none (by simpa using d),List.getElem?_eq_none];simp[List.length_flatten];exact d}
theorem zmW{o:α}{k:Int}{p q:IntKind}{r:List α}{lim bytes:Nat}{i:TypeInfo}{f:Value}(U:ji lim k o=some r)(u:∀(A:Nat→Prop) (w:World),GoT.rep A w f.cells.toList o)(H:P.underlying t=some (.slice e))(hi:P.info? e=some i)(I:i.zero=some f)(J:i.size=GoT.cells α)(z:i.bytes=bytes)(s:bytes*lim≤281474976710656)(D:lim≤maxLen)(hB:B≤w.heap.size)(W:∀b,w.heap.size≤b→A b)(X:ev E x=some (.int p k))(Z:ev E y=some (.int q k))(a0:Nat.blt d n.sz=true)(a:∀v w1 A1,Ow e B A1 w1 v r→Mv Dw B A w A1 w1 none→(∀g,v.ownBlock=some g→w.heap.size≤g)→V P n ops Q rest ((d,v)::E) w1):
  V P n ops Q (⟨some d,.makeSlice t x y,ty,pos,af,none⟩::rest) E w:=by{
 obtain⟨a1,h,rfl⟩:=zkG U;obtain⟨w1,m,F,c⟩:=run_make_full (P:=P) w B t e i f (GoT.cells α) H hi I J p q k.toNat (by rw[z];exact Nat.le_trans (Nat.mul_le_mul_left _ h) s) (Nat.le_trans h D) hB
 have L:w.drawn≤w1.drawn:=by
  have K:(k.toNat:Int)≤9223372036854775807:=by have a:=Nat.le_trans h D;simp[maxLen]at a;omega
  have M:(i.bytes:Int)*(k.toNat:Int)≤281474976710656:=by
   have a:((i.bytes*k.toNat:Nat):Int)≤281474976710656:=by have:=Nat.le_trans (Nat.mul_le_mul_left bytes h) s;rw[z];omega
   rwa[Int.natCast_mul]at a
  have N:=run_make (P:=P) w t e i f H hi I p q k.toNat k.toNat (by omega) (Int.le_refl _) M K
  cases m.symm.trans N
  exact Nat.le_refl _
 have j:((k.toNat:Nat):Int)=k:=Int.toNat_of_nonneg a1;rw[j]at m;have O:f.cells.size=GoT.cells α:=by have:=GoT.len (u A w);simpa using this
 have R:Mv Dw B A w (fun b=>A b∧b≠w.heap.size) w1 none :=
  ⟨c.os,c.tape,c.output,c.size,fun _=>L,fun k j S=>c.block k j S,(fun k a=>by cases a),fun k a=>a.1,fun k j a2=>⟨a2,by omega⟩,fun b a3=>⟨W b (Nat.le_trans c.size a3),by
   have:=(F.lt w.heap.size rfl).2;omega⟩⟩
 refine V_y (v := .slice (some ⟨w.heap.size,0,none⟩) k.toNat k.toNat) (w':=w1) (fun a4 G=>?_) rfl rfl a0 (a _ w1 _ (Ow.of_row (l:=List.replicate k.toNat o) (xs:=(List.replicate k.toNat f.cells.toList).flatten) ?_ (zeE (u _ _) _) ?_) R ?_);simp only[execOp,G.eval X,G.eval Z];simp[m];rw[List.length_replicate, ← zhL,O];exact F;intro g l T;simp[Value.ownBlock]at l;exact T.2 l.symm;intro g l;simp[Value.ownBlock]at l;omega}
structure Loc(v:Value)(b off:Nat)(i:Int)(sz:Nat):Prop where
 val:∃len cap,v=.slice (some ⟨b,0,none⟩) len cap
 off:off=i.toNat*sz
theorem ziQ{l:List α}{k:IntKind}{i:Int}{el:α}(h:Ow e B A w v l)(o:idx l i=some el)(u:P.underlying t=some (.slice e))(s:∀w,(Go.sizeOf e).run P w=.ok (GoT.cells α) w)(z:ev E x=some v)(D:ev E y=some (.int k i))(F:Nat.blt d n.sz=true)(K:∀f off,El (fun _=>True) w f off el→Loc v f off i (GoT.cells α)→V P n ops Q rest ((d,.pointer (some ⟨f,off,none⟩))::E) w):
  V P n ops Q (⟨some d,.indexAddr t x y,ty,pos,af,none⟩::rest) E w:=by{
 obtain⟨G,H,a⟩:=QE o;rcases id h with ⟨rfl,rfl⟩|⟨g,S,T,X,rfl,_⟩;simp at a
 have p:Y P n E ⟨some d,.indexAddr t x y,ty,pos,af,none⟩ w (.pointer (some ⟨g,0+i.toNat*GoT.cells α,none⟩)) w:=fun L j=>by
  simp only[execOp,j.eval z,j.eval D,Instr.indexAt,asIntOf]
  simp[underlying,u,s,G,H,zdZ]
 rcases h.any with ⟨L,a2,b,c,_⟩|⟨Z,M,N,U,b,W,q,O,R,m,r⟩;rw[c]at a;simp at a;simp only[Value.slice.injEq,Option.some.injEq,Addr.mk.injEq,and_true]at b;obtain⟨⟨rfl,rfl⟩,_,_⟩:=b;obtain⟨a0,I,a1,rfl,c,J⟩:=m.at a;refine V_y p rfl rfl F (K g (0+i.toNat*GoT.cells α) ⟨trivial,q,I,J,?_⟩ ⟨⟨_,_,rfl⟩,by rw[Nat.zero_add]⟩);rw[← c];exact r.right.left}
theorem zij{l:List α}{k:IntKind}{i:Int}{el:α}(h:Ow e B A w v l)(o:idx l i=some el)(u:P.underlying t=some (.slice e))(s:∀w,(Go.sizeOf e).run P w=.ok (GoT.cells α) w)(z:ev E x=some v)(D:ev E y=some (.int k i))(F:Nat.blt d n.sz=true)(K:∀f off,El (fun _=>True) w f off el→Loc v f off i (GoT.cells α)→VQ P n ops W QA rest ((d,.pointer (some ⟨f,off,none⟩))::E)):
  VQ P n ops W QA (⟨some d,.indexAddr t x y,ty,pos,af,none⟩::rest) E:=by{
 obtain⟨G,H,a⟩:=QE o;rcases id h with ⟨rfl,rfl⟩|⟨g,R,S,X,rfl,_⟩;simp at a
 have p:∀w,Y P n E ⟨some d,.indexAddr t x y,ty,pos,af,none⟩ w (.pointer (some ⟨g,0+i.toNat*GoT.cells α,none⟩)) w:=fun w L j=>by
  simp only[execOp,j.eval z,j.eval D,Instr.indexAt,asIntOf]
  simp[underlying,u,s,G,H,zdZ]
 rcases h.any with ⟨L,a2,b,c,_⟩|⟨Z,M,N,T,b,U,q,O,Q,m,r⟩;rw[c]at a;simp at a;simp only[Value.slice.injEq,Option.some.injEq,Addr.mk.injEq,and_true]at b;obtain⟨⟨rfl,rfl⟩,_,_⟩:=b;obtain⟨a0,I,a1,rfl,c,J⟩:=m.at a;refine VQ_y (fun w _=>p w) rfl rfl F (K g (0+i.toNat*GoT.cells α) ⟨trivial,q,I,J,?_⟩ ⟨⟨_,_,rfl⟩,by rw[Nat.zero_add]⟩);rw[← c];exact r.right.left}
theorem repL.set{cs c2:List Value}{l:List α}{i:Nat}{x':α}(f:repL A w cs l)(hi:i<l.length)(b:GoT.rep A w c2 x'):
  repL A w (cs.take (i*GoT.cells α)++c2++cs.drop (i*GoT.cells α+c2.length)) (l.set i x'):=by{
 induction l generalizing cs i with
 | nil=>simp at hi
 | cons y r ih =>
  rw[repL]at f
  obtain⟨c,h,rfl,d,e⟩:=f
  have a:=GoT.len d
  have g:=GoT.len b
  cases i with
  | zero =>
   rw[List.set_cons_zero,repL]
   refine⟨c2,h,?_,b,e⟩
   rw[Nat.zero_mul,List.take_zero,List.nil_append,Nat.zero_add,g, ← a,List.drop_left]
  | succ i =>
   rw[List.set_cons_succ,repL]
   have:=ih e (by simpa using hi)
   refine⟨c,_,?_,d,this⟩
   have j:(i+1)*GoT.cells α=c.length+i*GoT.cells α:=by rw[a,Nat.succ_mul,Nat.add_comm]
   rw[j,List.take_length_add_append,Nat.add_assoc,List.drop_length_add_append,List.append_assoc,List.append_assoc,List.append_assoc]}
theorem zmi{l r:List α}{i:Int}{b off sz:Nat}{x':α}{nv:Value}(R:Ow e B A w v l)(J:Loc v b off i (GoT.cells α))(d:setI l i x'=some r)(h:GoT.rep A w nv.cells.toList x')(S:∀w,(Go.sizeOf t).run P w=.ok sz w)(L:sz=GoT.cells α)(T:∀b,w.heap.size≤b→A b)(U:ev E x=some (.pointer (some ⟨b,off,none⟩)))(W:ev E y=some nv)(c:∀w1,Ow e B A w1 v r→Mv Dw B A w A w1 v.ownBlock→V P n ops Q rest E w1):V P n ops Q (⟨none,.store t x y,ty,pos,af,none⟩::rest) E w:=by{
 obtain⟨⟨len,o,rfl⟩,rfl⟩:=J;unfold setI at d;split at d;rotate_left;cases d;rename_i hi;obtain rfl:=Option.some.inj d;rcases R with ⟨f,_⟩|⟨g,a3,a,a5,f,z,D,F,G,X,H,Z,a0⟩;cases f;simp only[Value.slice.injEq,Option.some.injEq,Addr.mk.injEq,and_true]at f;obtain⟨rfl,rfl,rfl⟩:=f;have j:=GoT.len h;have q:nv.cells.size=GoT.cells α:=by simpa using j
 have a4:i.toNat*GoT.cells α+GoT.cells α≤l.length*GoT.cells α:=by
  rw[← Nat.succ_mul];exact Nat.mul_le_mul_right _ (by omega)
 have a2:l.length*GoT.cells α≤a.size:=by rw[H];exact Nat.mul_le_mul_right _ G
 have m:=run_storeCells_at P b (i.toNat*GoT.cells α) e nv.cells.toList 0 a w F (by rw[Nat.add_zero,j];omega) (GoT.one h);rw[Nat.add_zero]at m;generalize p:(a.toList.take (i.toNat*GoT.cells α)++nv.cells.toList++a.toList.drop (i.toNat*GoT.cells α+nv.cells.toList.length)).toArray=row at m
 have M:row.size=o*GoT.cells α:=by
  rw[← p, ← H]
  simp only[List.size_toArray,List.length_append,List.length_take,List.length_drop,Array.length_toList,q]
  omega
 have s:Mv Dw B A w A (w.setRow b row) (some b) :=
  ⟨rfl,rfl,rfl,by simp,fun _=>Nat.le_refl _,fun k I N=>setRow_other w b k _ (fun e=>N (by rw[e])),fun k I=>by cases I;exact⟨z,D⟩,fun _ c=>c,fun _ _ c=>c,fun a1 O=>T a1 (by simpa using O)⟩
 refine V_s (w':=w.setRow b row) (fun a6 u=>?_) rfl rfl (c _ (.inr ⟨b,o,row,_,by rw[List.length_set],z,D,setRow_heap w b a _ e _ F,by rw[List.length_set];exact G,X,M,(Z.set hi.2 h).keep s.ex,?_⟩) s);simp only[execOp,u.eval U,u.eval W,Instr.storeAt,Instr.sureAddr];simp[storeVar,S,L,q,m]
 ·rw[← p,List.length_set, ← a0]
  have K:nv.cells.toList.length=GoT.cells α:=j
  apply List.ext_getElem?
  intro a7
  simp only[List.getElem?_take,List.getElem?_append,List.getElem?_drop,List.length_take,List.length_append,Array.length_toList,K]
  repeat' split
  all_goals first | rfl | omega | (congr 1;omega) | skip
  all_goals (first | (rw[List.getElem?_eq_none];simp;omega) | skip)}
end steps
end Go.Gw
