import Derived.Test.YtcnidlpginehjaaGreatGm
namespace Go.Gw
open Go Go.RowKit Go.Pu
variable{Dw:Prop}
set_option linter.unusedSimpArgs false
set_option linter.unusedVariables false
structure Mv(Dw:Prop)(B:Nat)(A:Nat→Prop)(w:World)(A1:Nat→Prop)(w1:World)(ob:Option Nat):Prop where
 os:w1.os=w.os
 tape:w1.tape=w.tape
 output:w1.output=w.output
 size:w.heap.size≤w1.heap.size
 dr:Dw→w.drawn≤w1.drawn
 blk:∀k,k<w.heap.size→some k≠ob→w1.heap[k]?=w.heap[k]?
 old:∀k,ob=some k→B≤k∧¬A k
 sub:∀k,A1 k→A k
 sup:∀k,k<w.heap.size→A k→A1 k
 new:∀b,w1.heap.size≤b→A1 b
structure Tr(Dw:Prop)(B:Nat)(A:Nat→Prop)(w:World)(A1:Nat→Prop)(w1:World):Prop where
 ex:Ex A w A1 w1
 below:Bel Dw B w w1
 sub:∀k,A1 k→A k∨B≤k
 new:∀b,w1.heap.size≤b→A1 b
theorem Mv.ex{B:Nat}{A A1:Nat→Prop}{w w1:World}{ob:Option Nat}(a:Mv Dw B A w A1 w1 ob):Ex A w A1 w1 :=
 ⟨a.size,fun b c d=>⟨a.sup b c d,a.blk b c fun e=>(a.old b e.symm).2 d⟩⟩
theorem Mv.tr{B:Nat}{A A1:Nat→Prop}{w w1:World}{ob:Option Nat}(a:Mv Dw B A w A1 w1 ob)(hB:B≤w.heap.size):Tr Dw B A w A1 w1 :=
 ⟨a.ex,⟨a.os,a.tape,a.output,a.size,a.dr,fun b c=>a.blk b (by omega) fun e=>by have:=(a.old b e.symm).1;omega⟩,fun b c=>.inl (a.sub b c),a.new⟩
theorem Mv.kp{B:Nat}{A:Nat→Prop}{w w1:World}(a:Kp Dw w w1)(d:∀c,w.heap.size≤c→A c):Mv Dw B A w A w1 none :=
 ⟨a.os,a.tape,a.output,a.size,a.dr,fun f b _=>a.block f b,(fun _ b=>by cases b),fun _ b=>b,fun _ _ b=>b,fun c e=>d c (Nat.le_trans a.size e)⟩
theorem Tr.refl{B:Nat}{A:Nat→Prop}{w:World}(c:∀b,w.heap.size≤b→A b):Tr Dw B A w A w :=
 ⟨⟨Nat.le_refl _,fun _ _ a=>⟨a,rfl⟩⟩,Bel.refl _ _,fun _ a=>.inl a,c⟩
theorem Tr.trans{B:Nat}{A A1 e:Nat→Prop}{w w1 f:World}(a:Tr Dw B A w A1 w1)(k:Tr Dw B A1 w1 e f):Tr Dw B A w e f :=
 ⟨⟨Nat.le_trans a.ex.size k.ex.size,fun b c g=>by
   obtain⟨h,i⟩:=a.ex.block b c g
   obtain⟨j,l⟩:=k.ex.block b (Nat.lt_of_lt_of_le c a.ex.size) h
   exact⟨j,l.trans i⟩⟩,a.below.trans k.below,fun b c=>by
   rcases k.sub b c with d|d
   ·exact a.sub b d
   ·exact .inr d,k.new⟩
theorem Tr.step{B:Nat}{A A1 a:Nat→Prop}{w w1 b:World}{ob:Option Nat}(c:Tr Dw B A w A1 w1)(k:Mv Dw B A1 w1 a b ob)(hB:B≤w1.heap.size):Tr Dw B A w a b:=c.trans (k.tr hB)
theorem Tr.hB{A A1:Nat→Prop}{w0 w:World}(a:Tr Dw w0.heap.size A w0 A1 w):w0.heap.size≤w.heap.size:=a.below.size
theorem Sl.mv{α:Type}[GoT α]{B:Nat}{A A1:Nat→Prop}{w w1:World}{ob:Option Nat}{v:Value}{l:List α}(a:Sl A w v l)(b:Mv Dw B A w A1 w1 ob):Sl A1 w1 v l:=a.keep b.ex
theorem Sl.tr{α:Type}[GoT α]{B:Nat}{A A1:Nat→Prop}{w w1:World}{v:Value}{l:List α}(a:Sl A w v l)(b:Tr Dw B A w A1 w1):Sl A1 w1 v l:=a.keep b.ex
theorem El.mv{α:Type}[GoT α]{B:Nat}{A A1:Nat→Prop}{w w1:World}{ob:Option Nat}{b off:Nat}{x:α}(a:El A w b off x)(c:Mv Dw B A w A1 w1 ob):El A1 w1 b off x:=a.keep c.ex
theorem El.tr{α:Type}[GoT α]{B:Nat}{A A1:Nat→Prop}{w w1:World}{b off:Nat}{x:α}(a:El A w b off x)(c:Tr Dw B A w A1 w1):El A1 w1 b off x:=a.keep c.ex
theorem Sl.out{α:Type}[GoT α]{a A:Nat→Prop}{w0 w:World}{v:Value}{l:List α}(f:Sl A w v l)(d:∀b,w0.heap.size≤b→a b)(t:Tr Dw w0.heap.size a w0 A w):Sl a w v l :=
 f.keep (.sub fun c _ e=>(t.sub c e).elim id (d c))
def Ow{α:Type}[GoT α](e:TypeId)(B:Nat)(A:Nat→Prop)(w:World)(v:Value)(l:List α):Prop :=
 (v=.slice none 0 0∧l=[])∨
 ∃g cap cur cs,v=.slice (some ⟨g,0,none⟩) l.length cap∧B≤g∧¬A g∧w.heap[g]?=some (.cells cur e (0,0))∧l.length≤cap∧cap≤maxLen∧cur.size=cap*GoT.cells α∧repL A w cs l∧cur.toList.take (l.length*GoT.cells α)=cs
def Dj(v:Value)(ob:Option Nat):Prop:=∀g,v.ownBlock=some g→some g≠ob
section
variable{α:Type}[GoT α]{A A1:Nat→Prop}{w w1:World}{e:TypeId}{B:Nat}{v u:Value}{l:List α}{ob:Option Nat}
theorem Ow.nil:Ow e B A w (.slice none 0 0) ([]:List α) := .inl ⟨rfl,rfl⟩
theorem Ow.mv(a:Ow e B A w v l)(b:Mv Dw B A w A1 w1 ob)(h:Dj v ob):Ow e B A1 w1 v l:=by{rcases a with a|⟨g,d,f,i,rfl,j,k,c,m,n,o,p,q⟩;exact .inl a;exact .inr ⟨g,d,f,i,rfl,j,fun a=>k (b.sub g a),by rw[b.blk g (Array.getElem?_eq_some_iff.1 c).1 (h g rfl)];exact c,m,n,o,p.keep b.ex,q⟩}
theorem Ow.form(b:Ow e B A w v l):∃c a,v=.slice c l.length a∧l.length≤maxLen:=by{rcases b with ⟨rfl,rfl⟩|⟨g,a,d,f,rfl,h,i,j,k,m,n,o,p⟩;exact⟨none,0,rfl,Nat.zero_le _⟩;exact⟨_,_,rfl,by omega⟩}
theorem Ow.le(a:Ow e B A w v l):l.length≤maxLen:=let ⟨_,_,_,a⟩:=a.form;a
theorem Ow.lt(c:Ow e B A w v l):∀g,v.ownBlock=some g→g<w.heap.size:=by{intro g a;rcases c with ⟨rfl,rfl⟩|⟨h,d,f,i,rfl,j,k,b,m,n,o,p,q⟩;simp[Value.ownBlock]at a;simp[Value.ownBlock]at a;subst a;exact (Array.getElem?_eq_some_iff.1 b).1}
theorem Ow.sl{c:Nat→Prop}(q:Ow e B A w v l)(h:∀b,A b→c b)(i:∀g,v.ownBlock=some g→c g):Sl c w v l:=by{rcases q with ⟨rfl,rfl⟩|⟨g,f,r,j,rfl,s,t,d,k,m,x,n,o⟩;exact Sl.nil;refine .inr ⟨g,0,f,j,rfl,i g rfl,(Array.getElem?_eq_some_iff.1 d).1,k,m,n.keep (.sub fun b _ p=>h b p),?_⟩;intro y u a;rw[← o]at a;rw[List.getElem?_take]at a;split at a;simp only[World.cell?,d,Nat.zero_add];simpa using a;cases a}
theorem Ow.any(a:Ow e B A w v l):Sl (fun _=>True) w v l:=a.sl (fun _ _=>trivial) (fun _ _=>trivial)
theorem Ow.out{a:Nat→Prop}{w0:World}(d:Ow e w0.heap.size A w v l)(c:∀f,w0.heap.size≤f→a f)(t:Tr Dw w0.heap.size a w0 A w):Sl a w v l :=
 d.sl (fun h i=>(t.sub h i).elim id (c h)) fun g b=>by
  rcases d with ⟨rfl,rfl⟩|⟨n,k,m,o,rfl,j,p,q,r,s,u,x,y⟩
  ·simp[Value.ownBlock]at b
  ·simp[Value.ownBlock]at b
   subst b
   exact c _ j
theorem Dj.no:Dj v none:=fun _ _ a=>by cases a
theorem Dj.nil:Dj (.slice none 0 0) ob:=fun _ a=>by simp[Value.ownBlock]at a
theorem Dj.symm(b:Dj v u.ownBlock):Dj u v.ownBlock:=fun g a e=>b g e.symm a.symm
end
theorem zeM{α:Type}{lim:Nat}{l b r:List α}(a:Zc lim l b=some r):l.length+b.length≤lim∧r=l++b:=by{unfold Zc at a;split at a;rename_i h1;exact⟨h1,(Option.some.inj a).symm⟩;cases a}
section
variable{P:Program}
theorem zgG(w:World)(base:Nat)(t ty e:TypeId)(i:TypeInfo)(z:Value)(size bytes:Nat)(r:P.underlying t=some (.slice e))(hi:P.info? e=some i)(I:i.zero=some z)(L:i.size=size)(R:i.bytes=bytes)(S:z.cells.size=size)(a4:0<size)(v:Value)(n:Nat)(xs:List Value)(k:w.ownsRow base e size v n xs)(a:Addr)(b c:Nat)(d:List Value)(h:d.length=b*size)(x:∀p u,d[p]?=some u→w.cell? (a.add p)=some u)(X:∀u∈d,u.oneCell'=true)(H:n+b≤maxLen)(F:(n+b)*bytes≤140737488355328)(M:base≤w.heap.size):
  ∃D s,(Builtin.append_ #[t,t] ty #[v,.slice (some a) b c]).run P w=.ok D s∧s.ownsRow base e size D (n+b) (xs++d)∧w.grownBy s v.ownBlock∧
   (∀g,D.ownBlock=some g→v.ownBlock=some g∨w.heap.size≤g)∧w.drawn≤s.drawn:=by{
 subst L;subst R;have a3:n+b≤9223372036854775807:=by simp only[maxLen]at H;omega
 have q:(xs++d).length=(n+b)*i.size:=by rw[List.length_append,k.1,h,Nat.add_mul]
 have G:∀(f:Nat),f<n+b→∀(row:Option Nat),
   (w.drew.alloc (.cells (xs.toArray++d.toArray++Builtin.zeroCells z.cells (grownCap w (n+b) f e-(n+b))) e)).ownsRow base e i.size
    (.slice (some ⟨w.heap.size,0,none⟩) (n+b) (grownCap w (n+b) f e)) (n+b) (xs++d)∧
   w.grownBy (w.drew.alloc (.cells (xs.toArray++d.toArray++Builtin.zeroCells z.cells (grownCap w (n+b) f e-(n+b))) e)) row:=by
  intro f a6 row
  have T:=grownCap_ge w (n+b) f e
  have A:grownCap w (n+b) f e≤maxLen:=grownCap_le_maxLen w (n+b) f e H
  refine⟨⟨q,.inr ⟨w.heap.size,_,_,rfl,M,heap_alloc_new w.drew _,T,A,?_,?_⟩⟩,⟨rfl,rfl,rfl,by simp,fun K E _=>heap_alloc_old w.drew _ E⟩⟩
  ·simp only[Array.size_append,List.size_toArray,size_zeroCells,S,k.1,h, ← Nat.add_mul]
   congr 1
   omega
  ·simp only[Array.toList_append,List.append_assoc]
   rw[← List.append_assoc, ← q]
   exact List.take_left
 rcases k.2 with ⟨rfl,rfl⟩|⟨g,l,B,rfl,U,J,a5,A,W,N⟩;have Z:xs=[]:=List.eq_nil_of_length_eq_zero (by simpa using k.1);subst Z;by_cases a0:b=0;subst a0;have a1:d=[]:=List.eq_nil_of_length_eq_zero (by simpa using h);subst a1;refine⟨.slice none 0 0,w,?_,World.ownsRow_nil w base e i.size,⟨rfl,rfl,rfl,Nat.le_refl _,fun _ _ _=>rfl⟩,fun g j=>.inl j,Nat.le_refl _⟩;simp[Builtin.append_,run_underlying r,sizeOf,typeInfo,hi,Builtin.lenOf,Builtin.firstCells,loadCells,loadCellsFrom];have o:=run_append_nil (P:=P) w t ty e i z r hi I a b c d h x (by omega) (by omega) (by have hb:=F;simp only[Nat.zero_add]at hb;omega);have m:=G 0 (by omega) (Value.ownBlock (.slice none 0 0));simp only[Nat.zero_add,List.nil_append,Array.empty_append]at m ⊢;exact⟨_,_,o,m.1,m.2,fun g j=>.inr (by simp[Value.ownBlock]at j;omega),Nat.le_succ _⟩;by_cases y:n+b≤l;have Q:n*i.size+d.length≤B.size:=by rw[h,W, ← Nat.add_mul];exact Nat.mul_le_mul_right _ y
 have o:=run_append_room (P:=P) w t ty e i r hi g n l B J a b c d h x X y Q;refine⟨_,_,o,⟨q,.inr ⟨g,l,_,rfl,U,setRow_heap w g B _ e _ J,y,A,?_,?_⟩⟩,⟨rfl,rfl,rfl,by simp,fun K _ E=>setRow_other w g K _ (fun e=>E (by simp[Value.ownBlock,e]))⟩,fun a2 j=>.inl j,Nat.le_refl _⟩;simp only[List.size_toArray,List.length_append,List.length_take,List.length_drop,Array.length_toList];omega;rw[N, ← q];exact List.take_left;have O:∀p u,xs[p]?=some u→w.cell? ((⟨g,0,none⟩:Addr).add p)=some u:=k.cells (g:=g) rfl;have o:=run_append_grow (P:=P) w t ty e i z r hi I ⟨g,0,none⟩ n l xs k.1 O a b c d h x (by omega) (by omega) (growslice_fits (by omega) F);have m:=G l (by omega) (Value.ownBlock (.slice (some ⟨g,0,none⟩) n l));exact⟨_,_,o,m.1,m.2,fun a2 j=>.inr (by simp[Value.ownBlock]at j;omega),Nat.le_succ _⟩}
end
section steps
variable{P:Program}{n:Fr}{ops:Array Oper}{Q:Exit→Act→World→Prop}{E:Env}{w:World}{rest:List Oper}{v u:Value}{d:Nat}{W:World→Prop}{QA:Act→Prop}
variable{ty t e:TypeId}{pos:String}{af:Array Edge}{x y z:Operand}{A:Nat→Prop}{α:Type}[GoT α]{ρd:Option Nat}{g:Option (Nat×Bool)}{B:Nat}
theorem Ow.row{l:List α}(a:Ow e B A w v l):∃b,w.ownsRow B e (GoT.cells α) v l.length b∧repL A w b l∧∀g,v.ownBlock=some g→¬A g:=by{rcases a with ⟨rfl,rfl⟩|⟨g,d,f,h,rfl,i,j,k,m,n,o,c,p⟩;exact⟨[],World.ownsRow_nil _ _ _ _,rfl,fun g a=>by simp[Value.ownBlock]at a⟩;refine⟨h,⟨c.len,.inr ⟨g,d,f,rfl,i,k,m,n,o,p⟩⟩,c,fun q a=>?_⟩;simp[Value.ownBlock]at a;subst a;exact j}
theorem Ow.of_row{l:List α}{xs:List Value}(a:w.ownsRow B e (GoT.cells α) v l.length xs)(d:repL A w xs l)(f:∀g,v.ownBlock=some g→¬A g):Ow e B A w v l:=by{obtain⟨p,h⟩:=a;rcases h with ⟨rfl,a⟩|⟨g,b,c,rfl,i,j,k,m,n,o⟩;exact .inl ⟨rfl,List.eq_nil_of_length_eq_zero a⟩;exact .inr ⟨g,b,c,xs,rfl,i,f g rfl,j,k,m,n,d,o⟩}
theorem zhs{l j r:List α}{lim bytes:Nat}{i:TypeInfo}{D:Value}(S:Ow e B A w v l)(b3:Sl A w u j)(b4:Zc lim l j=some r)(F:P.underlying t=some (.slice e))(hi:P.info? e=some i)(b5:i.zero=some D)(X:i.size=GoT.cells α)(a4:i.bytes=bytes)(a5:D.cells.size=GoT.cells α)(a6:GoT.cells α≠0)(a0:lim*bytes≤140737488355328)(a7:lim≤maxLen)(hB:B≤w.heap.size)(b6:∀b,w.heap.size≤b→A b)(b7:ev E x=some v)(b8:ev E y=some u)(b9:Nat.blt d n.sz=true)(o:∀a w1 A1,Ow e B A1 w1 a r→Mv Dw B A w A1 w1 v.ownBlock→(∀g,a.ownBlock=some g→v.ownBlock=some g∨w.heap.size≤g)→V P n ops Q rest ((d,a)::E) w1):
  V P n ops Q (⟨some d,.call ⟨.builtin .append,#[x,y],#[t,t]⟩,ty,pos,af,none⟩::rest) E w:=by
 obtain⟨J,rfl⟩:=zeM b4
 obtain⟨G,q,a1,K⟩:=S.row
 have a2:∃a w1,(Builtin.append_ #[t,t] ty #[v,u]).run P w=.ok a w1∧(∃k,w1.ownsRow B e (GoT.cells α) a (l.length+j.length) (G++k)∧repL A w k j)∧w.grownBy w1 v.ownBlock∧(∀g,a.ownBlock=some g→v.ownBlock=some g∨w.heap.size≤g)∧w.drawn≤w1.drawn:=by
  rcases b3 with ⟨I,L,rfl,rfl,c7,c8⟩|⟨b,off,L,H,rfl,T,c9,d0,d1,s,a8⟩
  · -- nothing to append
   refine⟨v,w,?_,⟨[],?_,rfl⟩,⟨rfl,rfl,rfl,Nat.le_refl _,fun _ _ _=>rfl⟩,fun g o=>.inl o,Nat.le_refl _⟩
   ·have Z:∃base p,v=.slice base l.length p∧l.length≤p:=by
     rcases S with ⟨rfl,rfl⟩|⟨g,p,d2,H,rfl,_,_,_,m,_⟩
     ·exact⟨none,0,rfl,Nat.le_refl _⟩
     ·exact⟨_,_,rfl,m⟩
    obtain⟨base,p,rfl,U⟩:=Z
    clear o
    cases I with
    | none=>simp[Builtin.append_,run_underlying F,sizeOf,typeInfo,hi,Builtin.lenOf,U,Builtin.firstCells];cases base <;> simp[storeCells]
    | some I=>simp[Builtin.append_,run_underlying F,sizeOf,typeInfo,hi,Builtin.lenOf,U,Builtin.firstCells,loadCells,loadCellsFrom];cases base <;> simp[storeCells]
   ·simpa using q
  ·obtain⟨a,w1,c0,c1,c2,c3⟩:=zgG (P:=P) w B t ty e i D (GoT.cells α) bytes F hi b5 X a4 a5 (Nat.pos_of_ne_zero a6) v l.length G q ⟨b,off,none⟩ j.length L H s.len (fun c6 u c4=>by rw[zdZ];exact a8 c6 u c4) s.one
    (Nat.le_trans J a7) (Nat.le_trans (Nat.mul_le_mul_right _ J) a0) hB
   exact⟨a,w1,c0,⟨H,c1,s⟩,c2,c3⟩
 obtain⟨a,w1,a3,⟨k,M,a9⟩,h,N,b0⟩:=a2
 have O:Mv Dw B A w (fun b=>A b∧a.ownBlock≠some b) w1 v.ownBlock:=by
  refine⟨h.os,h.tape,h.output,h.size,fun _=>b0,fun c f b1=>h.block c f b1,fun c f=>?_,fun c f=>f.1,fun c f W=>⟨W,fun z=>?_⟩,fun b T=>⟨b6 b (Nat.le_trans h.size T),fun z=>?_⟩⟩
  ·refine⟨?_,K c f⟩
   exact (q.lt c f).1
  ·rcases N c z with m|m
   ·exact K c m W
   ·omega
  ·have:=(M.lt b z).2
   omega
 refine V_y (v:=a) (w':=w1) (fun I R=>?_) rfl rfl b9 (o a w1 _ (Ow.of_row (l:=l++j) (xs:=G++k) (by rw[List.length_append];exact M) ((a1.append a9).keep O.ex) fun g c5 b2=>b2.2 c5) O N)
 simp only[execOp,resolve,invoke,builtin,List.map_toArray,List.map_cons,List.map_nil,R.eval b7,R.eval b8]
 simp[a3]
omit [GoT α] in
theorem zif{lim:Nat}{k:Int}{b:α}{r:List α}(a:JC lim k b=some r):0≤k∧k.toNat≤lim∧r=List.replicate k.toNat b:=by{unfold JC at a;split at a;rename_i h1;exact⟨h1.1,h1.2,(Option.some.inj a).symm⟩;cases a}
theorem zdL{zz:α}{cs:List Value}(hz:GoT.rep A w cs zz):∀k,repL A w (List.replicate k cs).flatten (List.replicate k zz)
 | 0=>rfl
 | k+1=>by
  rw[List.replicate_succ,List.replicate_succ,List.flatten_cons,repL]
  exact⟨_,_,rfl,hz,zdL hz k⟩
theorem zgf(a:Array Value):∀b,(madeCells a (b*a.size)).toList=(List.replicate b a.toList).flatten:=by{
 intro b;apply List.ext_getElem?;intro c;simp only[madeCells,Array.toList_map,Array.toList_range];rcases Nat.lt_or_ge c (b*a.size)with e|e
 have g:0<a.size:=by
  rcases Nat.eq_zero_or_pos a.size with d|d
  rw[d]at e;omega
  exact d
 have f:∀(b c:Nat),c<b*a.size→(List.replicate b a.toList).flatten[c]?=some a[c % a.size]! := by
  intro b
  induction b with
  | zero=>intro c e;omega
  | succ b ih =>
   intro c e
   rw[List.replicate_succ,List.flatten_cons]
   rcases Nat.lt_or_ge c a.size with d|d
   rw[List.getElem?_append_left (by simpa using d),Nat.mod_eq_of_lt d]
   simp[d]
   rw[List.getElem?_append_right (by simpa using d)]
   have:(b+1)*a.size=b*a.size+a.size:=Nat.succ_mul _ _
   rw[Array.length_toList,ih (c-a.size) (by omega),Nat.mod_eq_sub_mod d]
 rw[f b c e];simp[e];rw[List.getElem?_eq_none (by simpa using e),List.getElem?_eq_none];simp[List.length_flatten];exact e}
theorem zjR{o:α}{k:Int}{p q:IntKind}{r:List α}{lim bytes:Nat}{i:TypeInfo}{f:Value}(U:JC lim k o=some r)(u:∀(A:Nat→Prop) (w:World),GoT.rep A w f.cells.toList o)(H:P.underlying t=some (.slice e))(hi:P.info? e=some i)(I:i.zero=some f)(J:i.size=GoT.cells α)(z:i.bytes=bytes)(s:bytes*lim≤281474976710656)(D:lim≤maxLen)(hB:B≤w.heap.size)(W:∀b,w.heap.size≤b→A b)(X:ev E x=some (.int p k))(Z:ev E y=some (.int q k))(a0:Nat.blt d n.sz=true)(a:∀v w1 A1,Ow e B A1 w1 v r→Mv Dw B A w A1 w1 none→(∀g,v.ownBlock=some g→w.heap.size≤g)→V P n ops Q rest ((d,v)::E) w1):
  V P n ops Q (⟨some d,.makeSlice t x y,ty,pos,af,none⟩::rest) E w:=by{
 obtain⟨a1,h,rfl⟩:=zif U;obtain⟨w1,m,F,c⟩:=run_make_full (P:=P) w B t e i f (GoT.cells α) H hi I J p q k.toNat (by rw[z];exact Nat.le_trans (Nat.mul_le_mul_left _ h) s) (Nat.le_trans h D) hB
 have L:w.drawn≤w1.drawn:=by
  have K:(k.toNat:Int)≤9223372036854775807:=by have a:=Nat.le_trans h D;simp[maxLen]at a;omega
  have M:(i.bytes:Int)*(k.toNat:Int)≤281474976710656:=by
   have a:((i.bytes*k.toNat:Nat):Int)≤281474976710656:=by have:=Nat.le_trans (Nat.mul_le_mul_left bytes h) s;rw[z];omega
   rwa[Int.natCast_mul]at a
  have N:=run_make (P:=P) w t e i f H hi I p q k.toNat k.toNat (by omega) (Int.le_refl _) M K
  cases m.symm.trans N
  exact Nat.le_refl _
 have j:((k.toNat:Nat):Int)=k:=Int.toNat_of_nonneg a1;rw[j]at m;have O:f.cells.size=GoT.cells α:=by have:=GoT.len (u A w);simpa using this
 have R:Mv Dw B A w (fun b=>A b∧b≠w.heap.size) w1 none :=
  ⟨c.os,c.tape,c.output,c.size,fun _=>L,fun k j S=>c.block k j S,(fun k a=>by cases a),fun k a=>a.1,fun k j a2=>⟨a2,by omega⟩,fun b a3=>⟨W b (Nat.le_trans c.size a3),by
   have:=(F.lt w.heap.size rfl).2;omega⟩⟩
 refine V_y (v := .slice (some ⟨w.heap.size,0,none⟩) k.toNat k.toNat) (w':=w1) (fun a4 G=>?_) rfl rfl a0 (a _ w1 _ (Ow.of_row (l:=List.replicate k.toNat o) (xs:=(List.replicate k.toNat f.cells.toList).flatten) ?_ (zdL (u _ _) _) ?_) R ?_);simp only[execOp,G.eval X,G.eval Z];simp[m];rw[List.length_replicate, ← zgf,O];exact F;intro g l T;simp[Value.ownBlock]at l;exact T.2 l.symm;intro g l;simp[Value.ownBlock]at l;omega}
structure Loc(v:Value)(b off:Nat)(i:Int)(sz:Nat):Prop where
 val:∃len cap,v=.slice (some ⟨b,0,none⟩) len cap
 off:off=i.toNat*sz
theorem zhe{l:List α}{k:IntKind}{i:Int}{el:α}(h:Ow e B A w v l)(o:idx l i=some el)(u:P.underlying t=some (.slice e))(s:∀w,(Go.sizeOf e).run P w=.ok (GoT.cells α) w)(z:ev E x=some v)(D:ev E y=some (.int k i))(F:Nat.blt d n.sz=true)(K:∀f off,El (fun _=>True) w f off el→Loc v f off i (GoT.cells α)→V P n ops Q rest ((d,.pointer (some ⟨f,off,none⟩))::E) w):
  V P n ops Q (⟨some d,.indexAddr t x y,ty,pos,af,none⟩::rest) E w:=by{
 obtain⟨G,H,a⟩:=Jv o;rcases id h with ⟨rfl,rfl⟩|⟨g,S,T,X,rfl,_⟩;simp at a
 have p:Y P n E ⟨some d,.indexAddr t x y,ty,pos,af,none⟩ w (.pointer (some ⟨g,0+i.toNat*GoT.cells α,none⟩)) w:=fun L j=>by
  simp only[execOp,j.eval z,j.eval D,Instr.indexAt,asIntOf]
  simp[underlying,u,s,G,H,zdZ]
 rcases h.any with ⟨L,a2,b,c,_⟩|⟨Z,M,N,U,b,W,q,O,R,m,r⟩;rw[c]at a;simp at a;simp only[Value.slice.injEq,Option.some.injEq,Addr.mk.injEq,and_true]at b;obtain⟨⟨rfl,rfl⟩,_,_⟩:=b;obtain⟨a0,I,a1,rfl,c,J⟩:=m.at a;refine V_y p rfl rfl F (K g (0+i.toNat*GoT.cells α) ⟨trivial,q,I,J,?_⟩ ⟨⟨_,_,rfl⟩,by rw[Nat.zero_add]⟩);rw[← c];exact r.right.left}
theorem zgz{l:List α}{k:IntKind}{i:Int}{el:α}(h:Ow e B A w v l)(o:idx l i=some el)(u:P.underlying t=some (.slice e))(s:∀w,(Go.sizeOf e).run P w=.ok (GoT.cells α) w)(z:ev E x=some v)(D:ev E y=some (.int k i))(F:Nat.blt d n.sz=true)(K:∀f off,El (fun _=>True) w f off el→Loc v f off i (GoT.cells α)→VQ P n ops W QA rest ((d,.pointer (some ⟨f,off,none⟩))::E)):
  VQ P n ops W QA (⟨some d,.indexAddr t x y,ty,pos,af,none⟩::rest) E:=by{
 obtain⟨G,H,a⟩:=Jv o;rcases id h with ⟨rfl,rfl⟩|⟨g,R,S,X,rfl,_⟩;simp at a
 have p:∀w,Y P n E ⟨some d,.indexAddr t x y,ty,pos,af,none⟩ w (.pointer (some ⟨g,0+i.toNat*GoT.cells α,none⟩)) w:=fun w L j=>by
  simp only[execOp,j.eval z,j.eval D,Instr.indexAt,asIntOf]
  simp[underlying,u,s,G,H,zdZ]
 rcases h.any with ⟨L,a2,b,c,_⟩|⟨Z,M,N,T,b,U,q,O,Q,m,r⟩;rw[c]at a;simp at a;simp only[Value.slice.injEq,Option.some.injEq,Addr.mk.injEq,and_true]at b;obtain⟨⟨rfl,rfl⟩,_,_⟩:=b;obtain⟨a0,I,a1,rfl,c,J⟩:=m.at a;refine VQ_y (fun w _=>p w) rfl rfl F (K g (0+i.toNat*GoT.cells α) ⟨trivial,q,I,J,?_⟩ ⟨⟨_,_,rfl⟩,by rw[Nat.zero_add]⟩);rw[← c];exact r.right.left}
theorem repL.set{cs c2:List Value}{l:List α}{i:Nat}{x':α}(f:repL A w cs l)(hi:i<l.length)(b:GoT.rep A w c2 x'):
  repL A w (cs.take (i*GoT.cells α)++c2++cs.drop (i*GoT.cells α+c2.length)) (l.set i x'):=by{
 induction l generalizing cs i with
 | nil=>simp at hi
 | cons y r ih =>
  rw[repL]at f
  obtain⟨c,h,rfl,d,e⟩:=f
  have a:=GoT.len d
  have g:=GoT.len b
  cases i with
  | zero =>
   rw[List.set_cons_zero,repL]
   refine⟨c2,h,?_,b,e⟩
   rw[Nat.zero_mul,List.take_zero,List.nil_append,Nat.zero_add,g, ← a,List.drop_left]
  | succ i =>
   rw[List.set_cons_succ,repL]
   have:=ih e (by simpa using hi)
   refine⟨c,_,?_,d,this⟩
   have j:(i+1)*GoT.cells α=c.length+i*GoT.cells α:=by rw[a,Nat.succ_mul,Nat.add_comm]
   rw[j,List.take_length_add_append,Nat.add_assoc,List.drop_length_add_append,List.append_assoc,List.append_assoc,List.append_assoc]}
theorem zjo{l r:List α}{i:Int}{b off sz:Nat}{x':α}{nv:Value}(R:Ow e B A w v l)(J:Loc v b off i (GoT.cells α))(d:setI l i x'=some r)(h:GoT.rep A w nv.cells.toList x')(S:∀w,(Go.sizeOf t).run P w=.ok sz w)(L:sz=GoT.cells α)(T:∀b,w.heap.size≤b→A b)(U:ev E x=some (.pointer (some ⟨b,off,none⟩)))(W:ev E y=some nv)(c:∀w1,Ow e B A w1 v r→Mv Dw B A w A w1 v.ownBlock→V P n ops Q rest E w1):V P n ops Q (⟨none,.store t x y,ty,pos,af,none⟩::rest) E w:=by{
 obtain⟨⟨len,m,rfl⟩,rfl⟩:=J;unfold setI at d;split at d;rotate_left;cases d;rename_i hi;obtain rfl:=Option.some.inj d;rcases R with ⟨f,_⟩|⟨g,a3,a,a5,f,u,z,D,F,X,G,Z,a0⟩;cases f;simp only[Value.slice.injEq,Option.some.injEq,Addr.mk.injEq,and_true]at f;obtain⟨rfl,rfl,rfl⟩:=f;have j:=GoT.len h;have p:nv.cells.size=GoT.cells α:=by simpa using j
 have a4:i.toNat*GoT.cells α+GoT.cells α≤l.length*GoT.cells α:=by
  rw[← Nat.succ_mul];exact Nat.mul_le_mul_right _ (by omega)
 have a2:l.length*GoT.cells α≤a.size:=by rw[G];exact Nat.mul_le_mul_right _ F
 have k:=run_storeCells_at P b (i.toNat*GoT.cells α) e nv.cells.toList 0 a w D (by rw[Nat.add_zero,j];omega) (GoT.one h);rw[Nat.add_zero]at k;generalize o:(a.toList.take (i.toNat*GoT.cells α)++nv.cells.toList++a.toList.drop (i.toNat*GoT.cells α+nv.cells.toList.length)).toArray=row at k
 have M:row.size=m*GoT.cells α:=by
  rw[← o, ← G]
  simp only[List.size_toArray,List.length_append,List.length_take,List.length_drop,Array.length_toList,p]
  omega
 have q:Mv Dw B A w A (w.setRow b row) (some b) :=
  ⟨rfl,rfl,rfl,by simp,fun _=>Nat.le_refl _,fun I H N=>setRow_other w b I _ (fun e=>N (by rw[e])),fun I H=>by cases H;exact⟨u,z⟩,fun _ c=>c,fun _ _ c=>c,fun a1 O=>T a1 (by simpa using O)⟩
 refine V_s (w':=w.setRow b row) (fun a6 s=>?_) rfl rfl (c _ (.inr ⟨b,m,row,_,by rw[List.length_set],u,z,setRow_heap w b a _ e _ D,by rw[List.length_set];exact F,X,M,(Z.set hi.2 h).keep q.ex,?_⟩) q);simp only[execOp,s.eval U,s.eval W,Instr.storeAt,Instr.sureAddr];simp[storeVar,S,L,p,k]
 ·rw[← o,List.length_set, ← a0]
  have K:nv.cells.toList.length=GoT.cells α:=j
  apply List.ext_getElem?
  intro a7
  simp only[List.getElem?_take,List.getElem?_append,List.getElem?_drop,List.length_take,List.length_append,Array.length_toList,K]
  repeat' split
  all_goals first | rfl | omega | (congr 1;omega) | skip
  all_goals (first | (rw[List.getElem?_eq_none];simp;omega) | skip)}
end steps
end Go.Gw
