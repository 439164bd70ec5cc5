import Derived.Test.YtdpmeckhhcjoiaaGreatDoorGz
import Derived.Test.YtdpmeckhhcjoiaaGreatDoorPu
import Derived.Shelf.SlSortCmp.NoneTotal
namespace Go.Gw
open Go Go.RowKit Go.Pu Go.Sort Go.Proofs
variable{Dw:Prop}
set_option linter.unusedSimpArgs false
set_option linter.unusedVariables false
theorem Kp.eqn{w w':World}(a:Kp True w w'):∃l c,w'=grow (w.drewN l) c:=by{
 refine⟨w'.drawn-w.drawn,w'.heap.extract w.heap.size w'.heap.size,?_⟩;have d:=a.dr trivial;obtain⟨b,e,m,c,out⟩:=w';simp only at d;have f:e=w.tape:=a.tape;have g:c=w.os:=a.os;have h:out=w.output:=a.output;subst f g h;have n:w.heap.size≤b.size:=a.size
 have j:b=w.heap++b.extract w.heap.size b.size:=by
  apply Array.ext
  simp;omega
  intro i k o
  rw[Array.getElem_append]
  split
  rename_i h3
  have:=a.block i h3
  simp only at this
  rw[Array.getElem?_eq_getElem k,Array.getElem?_eq_getElem h3]at this
  exact Option.some.inj this
  simp
  congr 1
  omega
 unfold grow World.drewN;simp only[World.mk.injEq,true_and,and_true];exact⟨j,by omega⟩}
section
variable{β:Type}[Inhabited β]
theorem zmg(enc:β→List Value)(k:Nat)(b:∀g,(enc g).length=k):∀(a:List β) (t:Nat),t<a.length*k→(a.map enc).flatten[t]?=some ((enc a[t / k]!)[t % k]!)
 | [],t,h=>by simp at h
 | i::a,t,h=>by
  have k0:0<k:=by
   rcases Nat.eq_zero_or_pos k with d|d
   ·subst d;simp at h
   ·exact d
  rw[List.map_cons,List.flatten_cons]
  by_cases c:t<k
  ·rw[List.getElem?_append_left (by rw[b];exact c),Nat.div_eq_of_lt c,Nat.mod_eq_of_lt c]
   rw[List.getElem?_eq_getElem (by rw[b];exact c)]
   simp[b,c]
  ·rw[List.getElem?_append_right (by rw[b];omega),b]
   have j:(i::a).length*k=a.length*k+k:=by rw[List.length_cons,Nat.succ_mul]
   rw[zmg enc k b a (t-k) (by omega)]
   have e:t / k=(t-k) / k+1:=Nat.div_eq_sub_div k0 (by omega)
   have f:t % k=(t-k) % k:=Nat.mod_eq_sub_mod (by omega)
   rw[e,f]
   simp
theorem zkY(enc:β→List Value)(k:Nat)(e:∀g,(enc g).length=k)(d:Array β):(flatK enc k d).toList=(d.toList.map enc).flatten:=by{
 have h:(d.toList.map enc).flatten.length=d.size*k:=by
  rw[List.length_flatten]
  have:(List.map List.length (d.toList.map enc))=List.replicate d.size k:=by
   rw[List.map_map]
   apply List.ext_getElem
   simp
   intro i j b
   simp[e]
  rw[this]
  simp
 apply List.ext_getElem?;intro a;by_cases c:a<d.size*k;rw[zmg enc k e d.toList a (by simpa using c)];have f:a<(flatK enc k d).size:=by simpa using c
 rw[Array.getElem?_toList,Array.getElem?_eq_getElem f, ← getElem!_pos (flatK enc k d) a f,get_flatK enc k d a c];congr 3;by_cases b:a / k<d.size;simp[b];simp[b];rw[List.getElem?_eq_none (by simp;omega),List.getElem?_eq_none (by omega)]}
end
section
variable{α:Type}[GoT α]{P:Program}{f g:FuncId}{cb:Array Value}{B:Nat}{A:Nat→Prop}{w:World}{L:List Ob}{i:Nat}{e:TypeId}{v:Value}
abbrev Pr(A:Nat→Prop)(w:World)(l:List α):Type := { p:List Value×α // GoT.rep A w p.1 p.2∧p.2∈l }
theorem zqj{A:Nat→Prop}{w:World}{l0:List α}:∀{l:List α} {cs:List Value},repL A w cs l→(∀b∈l,b∈l0)→∃a:List (Pr A w l0),a.map (fun c=>c.1.2)=l∧(a.map fun c=>c.1.1).flatten=cs
 | [],cs,h,_=>⟨[],rfl,by have:cs=[]:=h;rw[this];rfl⟩
 | b::l,cs,h,hm=>by
  obtain⟨c1,c2,rfl,h1,h2⟩:=h
  obtain⟨a,e,f⟩:=zqj h2 fun g d=>hm g (List.mem_cons_of_mem _ d)
  exact⟨⟨(c1,b),h1,hm b (List.mem_cons_self ..)⟩::a,by simp[e],by simp[f]⟩
theorem znR{A A1:Nat→Prop}{w w1:World}{l0:List α}(hx:Ex A w A1 w1):∀ps:List (Pr A w l0),repL A1 w1 ((ps.map fun p=>p.1.1).flatten) (ps.map fun p=>p.1.2)
 | []=>rfl
 | p::ps=>⟨p.1.1,_,rfl,GoT.keep p.2.1 hx,znR hx ps⟩
theorem zpD{A:Nat→Prop}{w:World}{g:α→α→Option Int}{l:List α}(m:zie g l)(d i:List (Pr A w l))(s:d.map (fun e=>e.1.2)=l)(t:i.Perm d)(u:i.Pairwise fun e p=>QE g p.1.2 e.1.2=false):
  i.map (fun e=>e.1.2)=l.mergeSort fun c f=>!(QE g f c):=by{
 let γ := { c:α // c∈l };let G:Pr A w l→γ:=fun e=>⟨e.1.2,e.2.2⟩;let le:γ→γ→Bool:=fun c f=>!(QE g f.1 c.1);have h:∀(c f:γ),le c f=true↔QE g f.1 c.1=false:=fun c f=>by simp[le]
 have q:∀b a j:γ,le b a=true→le a j=true→le b j=true:=fun b a j o k=>(h b j).2 (m.ntrans _ j.2 _ a.2 _ b.2 ((h a j).1 k) ((h b a).1 o))
 have r:∀b a:γ,(le b a||le a b)=true:=fun b a=>by
  rw[Bool.or_eq_true]
  by_cases n:QE g a.1 b.1=false
  exact .inl ((h b a).2 n)
  refine .inr ((h a b).2 ?_)
  cases k:QE g b.1 a.1 with
  | false=>rfl
  | true =>
   have:=m.trans _ a.2 _ b.2 _ a.2 (by simpa using n) k
   rw[m.irrefl _ a.2]at this
   cases this
 have o:(i.map G).Perm ((d.map G).mergeSort le):=(t.map G).trans (List.mergeSort_perm _ _).symm
 have k:(i.map G)=(d.map G).mergeSort le:=by
  refine List.Perm.eq_of_pairwise (le:=fun c f=>le c f=true) ?_ ?_ ?_ o
  intro b a _ _ v x
  exact Subtype.ext (m.total _ b.2 _ a.2 ((h a b).1 x) ((h b a).1 v))
  rw[List.pairwise_map]
  exact u.imp fun {e p} n=>(h (G e) (G p)).2 n
  exact List.pairwise_mergeSort q r _
 have y:i.map (fun e=>e.1.2)=(i.map G).map (fun c=>c.1):=by rw[List.map_map];rfl
 rw[y,k,List.map_mergeSort (s:=fun c f=>!(QE g f c)) (fun b _ a _=>rfl),List.map_map];have:d.map ((fun c:γ=>c.1) ∘ G)=d.map fun e=>e.1.2:=rfl;rw[this,s]}
theorem zqb{β:Type}[Inhabited β](enc:β→List Value)(k:Nat)(w:World)(g m:Nat)(c:Array β)(os:Array Obj)(f:g<w.heap.size)(b:Nat)(d:b<w.heap.size)(a:b≠g):(sortWorldK enc k w g 0 m c os).heap[b]?=w.heap[b]?:=by{unfold sortWorldK;rw[heap_grow_old _ _ (by simpa [putRowK,putRow,mapBlock,Go.Sort.ahead]using d)];simp only[putRowK,putRow,mapBlock,Go.Sort.ahead,Array.getElem?_modify];rw[if_neg (fun e=>a e.symm)]}
theorem zrU{β:Type}[Inhabited β](enc:β→List Value)(k:Nat)(w:World)(g m:Nat)(d:Array β)(os:Array Obj)(h:g<w.heap.size)(hB:B≤g∧¬A g)(i:∀a,w.heap.size≤a→A a):Mv Dw B A w A (sortWorldK enc k w g 0 m d os) (some g):=by{
 have e:w.heap.size≤(sortWorldK enc k w g 0 m d os).heap.size:=by simp[sortWorldK,putRowK,putRow,mapBlock,Go.Sort.ahead,grow]
 exact⟨rfl,rfl,rfl,e,fun _=>Nat.le_add_right _ _,fun a b f=>zqb enc k w g m d os h a b (fun c=>f (by rw[c])),fun a b=>by cases b;exact hB,fun _ c=>c,fun _ _ c=>c,fun a b=>i a (Nat.le_trans e b)⟩}
theorem Hp.sortFuncK{D:α→α→Option Int}{l r:List α}(d7:∀(b:Option Addr) (c:Nat) (w:World),Calls P f #[.slice b 0 c,.func (.func g) #[] cb] w fun e o=>e=.returned (.tuple #[])∧o=w)(s:∀{β:Type} [Inhabited β] (enc:β→List Value) (p:∀x,(enc x).length=GoT.cells α) (a5:∀x,∀v∈enc x,v.oneCell'=true) (m:β→β→Int) (b1:SWO (ltOf m)) (E off cap:Nat) (d:Array β) (w:World),
   CmpLays P g cb enc (GoT.cells α) m E off d.size w→HoldsK enc (GoT.cells α) w E off d→E<w.heap.size→d.size<4611686018427387904→
   Calls P f #[.slice (some ⟨E,off,none⟩) d.size cap,.func (.func g) #[] cb] w fun e o=>e=.returned (.tuple #[])∧∃a S n,PermIn 0 d.size d a∧SortedIn (ltOf m) 0 d.size a∧o=sortWorldK enc (GoT.cells α) w E off S a n)(a6:∀(z:World),Tr True B A w A z→(∀k,z.heap.size≤k→A k)→∀(x y:α) (b2 b3:List Value) (c:Int),GoT.rep A z b2 x→GoT.rep A z b3 y→D x y=some c→
   Ret P g (#[.agg b2.toArray,.agg b3.toArray]++cb) z fun v o=>v=.int .i64 c∧Kp True z o)(b4:Hp B A w L)(hi:L[i]?=some (obS e v l))(hB:B≤w.heap.size)(b5:∀k,w.heap.size≤k→A k)(d8:jQ D l=some r):
  Ret P f #[v,.func (.func g) #[] cb] w fun u o=>u=.tuple #[]∧Hp B A o (L.set i (obS e v r))∧Tr Dw B A w A o:=by{
 obtain⟨t,rfl⟩:=zhY d8;obtain⟨f0,b6,H,c4⟩:=b4.at hi;by_cases W:l=[];subst W
 have d9:∃b c,v=.slice b 0 c:=by
  rcases b6 with ⟨rfl,_,_⟩|⟨h,cap,F,I,rfl,_⟩
  exact⟨_,_,rfl⟩
  exact⟨_,_,rfl⟩
 obtain⟨b,c,rfl⟩:=d9;refine Calls.mono (d7 b c w) ?_;rintro _ _⟨rfl,rfl⟩;refine⟨_,rfl,rfl,?_,.refl b5⟩;rw[List.mergeSort_nil]
 have:L.set i (obS (α:=α) e (.slice b 0 c) [])=L:=by
  apply List.ext_getElem?
  intro e7
  rw[List.getElem?_set]
  split
  rename_i p
  subst p
  split
  exact hi.symm
  rename_i hk2
  rw[List.getElem?_eq_none (by omega)]at hi
  cases hi
  rfl
 rw[this];exact b4;rcases b6 with ⟨_,rfl,_⟩|⟨h,cap,F,I,rfl,rfl,Q,b7,e0,b8,b9,e1⟩;exact absurd rfl W;have X:=(Array.getElem?_eq_some_iff.1 Q).1;have a7:=H h (by simp);obtain⟨j,c0,e3⟩:=zqj (l0:=l) b9 fun x e2=>e2;have c8:j.length=l.length:=by have T:=congrArg List.length c0;simpa using T
 have e8:0<l.length:=by cases l with
  | nil=>exact absurd rfl W
  | cons x l=>simp
 haveI:Inhabited (Pr A w l):=⟨j[0]'(by omega)⟩;let enc:Pr A w l→List Value:=fun b=>b.1.1;have p:∀x:Pr A w l,(enc x).length=GoT.cells α:=fun x=>GoT.len x.2.1;have a5:∀x:Pr A w l,∀v∈enc x,v.oneCell'=true:=fun x=>GoT.one x.2.1;let m:Pr A w l→Pr A w l→Int:=fun x y=>(D x.1.2 y.1.2).getD 0
 have N:∀x y:Pr A w l,ltOf m x y=QE D x.1.2 y.1.2:=by
  intro x y
  obtain⟨c,R⟩:=t.says _ x.2.2 _ y.2.2
  simp[ltOf,m,QE,R]
 have b1:SWO (ltOf m):=by
  refine⟨fun x=>?_,fun x y a1 s J=>?_,fun x y a1 s J=>?_⟩
  rw[N];exact t.irrefl _ x.2.2
  rw[N]at s J ⊢;exact t.trans _ x.2.2 _ y.2.2 _ a1.2.2 s J
  rw[N]at s J ⊢;exact t.ntrans _ x.2.2 _ y.2.2 _ a1.2.2 s J
 have a8:∀(c1:Prop) (M:Nat) (K:Array (Pr A w l)) (n:Array Obj),Mv c1 B A w A (sortWorldK enc (GoT.cells α) w h 0 M K n) (some h):=fun c1 M K n=>zrU enc _ w h M K n X ⟨a7.1,a7.2.2⟩ b5
 have c5:CmpLays P g cb enc (GoT.cells α) m h 0 j.toArray.size w:=by
  intro M n K _ x y
  obtain⟨c,R⟩:=t.says _ x.2.2 _ y.2.2
  have q:=a8 True M K n
  have:=a6 _ (q.tr hB) q.new x.1.2 y.1.2 (enc x) (enc y) c (GoT.keep x.2.1 q.ex) (GoT.keep y.2.1 q.ex) R
  refine Calls.mono this ?_
  rintro _ o⟨_,rfl,rfl,c9⟩
  exact⟨by simp[m,R],c9.eqn⟩
 have a9:(flatK enc (GoT.cells α) j.toArray).toList=I:=by rw[zkY enc _ p];exact e3
 have c2:HoldsK enc (GoT.cells α) w h 0 j.toArray:=by
  intro U Z
  have e9:U<I.length:=by rw[← a9,Array.length_toList];exact Z
  have a6:I.length=l.length*GoT.cells α:=b9.len
  constructor
  have d0:F[U]?=I[U]?:=by
   rw[← e1,List.getElem?_take,if_pos (by omega),Array.getElem?_toList]
  simp only[World.cell?,Q,Nat.zero_add]
  rw[if_neg (by simp),d0, ← a9,Array.getElem?_toList,Array.getElem?_eq_getElem Z,getElem!_pos (flatK enc (GoT.cells α) j.toArray) U Z]
  rfl
  simp[World.frozen?,Q]
 have O:j.toArray.size=l.length:=by simpa using c8
 have a3:=s enc p a5 m b1 h 0 cap j.toArray w c5 c2 X (by rw[O];exact t.len);rw[O]at a3;refine Calls.mono a3 ?_;rintro _ _⟨rfl,a,S,n,a4,c3,rfl⟩;refine⟨_,rfl,rfl,?_⟩;have a0:a.size=l.length:=by rw[a4.1,O]
 have d1:a.toList.Perm j:=by
  have T:=a4.2.2
  have e4:a.extract 0 l.length=a:=by rw[← a0];exact Array.extract_size
  have e5:j.toArray.extract 0 l.length=j.toArray:=by rw[← O];exact Array.extract_size
  rw[e4,e5]at T
  simpa using T
 have d2:a.toList.Pairwise fun x y=>QE D y.1.2 x.1.2=false:=by
  rw[List.pairwise_iff_getElem]
  intro a2 k e6 H d3
  have d4:a2<a.size:=by simpa using e6
  have G:k<a.size:=by simpa using H
  have:=c3 a2 k (Nat.zero_le _) d3 (by omega)
  rw[N,getElem!_pos a a2 d4,getElem!_pos a k G]at this
  simpa using this
 have c6:=zpD t j a.toList c0 d1 d2;rw[← c6];have q:=a8 Dw S a n;have hlen:(a.toList.map fun b=>b.1.2).length=l.length:=by simp[a0]
 have c7:(sortWorldK enc (GoT.cells α) w h 0 S a n).heap[h]?=some (.cells (putCells id 0 (flatK enc (GoT.cells α) a) F) e (0,0)):=by
  unfold sortWorldK
  rw[heap_grow_old _ _ (by simpa [putRowK,putRow,mapBlock,Go.Sort.ahead]using X)]
  simp only[putRowK,putRow,mapBlock,Go.Sort.ahead,Array.getElem?_modify,if_pos rfl,Q]
  rfl
 refine⟨c4 A _ (some h) (obS e (.slice (some ⟨h,0,none⟩) l.length cap) (a.toList.map fun b=>b.1.2)) [h] q (fun e7 p=>by cases p;simp) ?_ fun k G=>⟨.inl G,(H k G).1,(H k G).2.2⟩,q.tr hB⟩;refine .inr ⟨h,cap,_,(a.toList.map fun b=>b.1.1).flatten,by rw[hlen],rfl,c7,by rw[hlen];exact b7,e0,by simpa [putCells]using b8,znR q.ex _,?_⟩;have d5:(flatK enc (GoT.cells α) a).toList=(a.toList.map fun b=>b.1.1).flatten:=zkY enc _ p a;have b0:(flatK enc (GoT.cells α) a).size=l.length*GoT.cells α:=by rw[size_flatK,a0]
 have d6:l.length*GoT.cells α≤F.size:=by rw[b8];exact Nat.mul_le_mul_right _ b7
 have:=zfQ id (flatK enc (GoT.cells α) a).toList F (by rw[Array.length_toList,b0];exact d6);rw[hlen];rw[Array.length_toList,b0,List.map_id,Array.toArray_toList]at this;rw[this,d5]}
end
section
variable{P:Program}{f g:FuncId}{cb:Array Value}{B:Nat}{A:Nat→Prop}{w:World}{L:List Ob}{i:Nat}{e:TypeId}{v:Value}
theorem zoH{f:Int→Int→Option Int}{l:List Int}(k:zie f l)(d m:List { c:Int // c∈l })(r:d.map (fun h=>h.1)=l)(s:m.Perm d)(t:m.Pairwise fun h o=>QE f o.1 h.1=false):
  m.map (fun h=>h.1)=l.mergeSort fun c e=>!(QE f e c):=by{
 let le : { c:Int // c∈l }→{ c:Int // c∈l }→Bool:=fun c e=>!(QE f e.1 c.1);have g:∀c e,le c e=true↔QE f e.1 c.1=false:=fun c e=>by simp[le]
 have p:∀b a i,le b a=true→le a i=true→le b i=true:=fun b a i u j=>(g b i).2 (k.ntrans _ i.2 _ a.2 _ b.2 ((g a i).1 j) ((g b a).1 u))
 have q:∀b a,(le b a||le a b)=true:=fun b a=>by
  rw[Bool.or_eq_true]
  by_cases n:QE f a.1 b.1=false
  exact .inl ((g b a).2 n)
  refine .inr ((g a b).2 ?_)
  cases j:QE f b.1 a.1 with
  | false=>rfl
  | true =>
   have:=k.trans _ a.2 _ b.2 _ a.2 (by simpa using n) j
   rw[k.irrefl _ a.2]at this
   cases this
 have j:m=d.mergeSort le:=by
  refine List.Perm.eq_of_pairwise (le:=fun c e=>le c e=true) ?_ ?_ ?_ (s.trans (List.mergeSort_perm _ _).symm)
  intro b a _ _ v w
  exact Subtype.ext (k.total _ b.2 _ a.2 ((g a b).1 w) ((g b a).1 v))
  exact t.imp fun {h o} n=>(g h o).2 n
  exact List.pairwise_mergeSort p q _
 rw[j,List.map_mergeSort (s:=fun c e=>!(QE f e c)) (fun b _ a _=>rfl),r]}
theorem zpB{β:Type}[Inhabited β](enc:β→Value)(w:World)(g m:Nat)(c:Array β)(os:Array Obj)(f:g<w.heap.size)(b:Nat)(d:b<w.heap.size)(a:b≠g):(sortWorld enc w g 0 m c os).heap[b]?=w.heap[b]?:=by{unfold sortWorld;rw[heap_grow_old _ _ (by simpa [putRow,mapBlock,Go.Sort.ahead]using d)];simp only[putRow,mapBlock,Go.Sort.ahead,Array.getElem?_modify];rw[if_neg (fun e=>a e.symm)]}
theorem zra{β:Type}[Inhabited β](enc:β→Value)(w:World)(g m:Nat)(d:Array β)(os:Array Obj)(h:g<w.heap.size)(hB:B≤g∧¬A g)(i:∀a,w.heap.size≤a→A a):Mv Dw B A w A (sortWorld enc w g 0 m d os) (some g):=by{
 have e:w.heap.size≤(sortWorld enc w g 0 m d os).heap.size:=by simp[sortWorld,putRow,mapBlock,Go.Sort.ahead,grow]
 exact⟨rfl,rfl,rfl,e,fun _=>Nat.le_add_right _ _,fun a b f=>zpB enc w g m d os h a b (fun c=>f (by rw[c])),fun a b=>by cases b;exact hB,fun _ c=>c,fun _ _ c=>c,fun a b=>i a (Nat.le_trans e b)⟩}
theorem Hp.sortFunc1{q:Int→Int→Option Int}{l r:List Int}(d0:∀(b:Option Addr) (c:Nat) (w:World),Calls P f #[.slice b 0 c,.func (.func g) #[] cb] w fun e n=>e=.returned (.tuple #[])∧n=w)(o:∀{β:Type} [Inhabited β] (enc:β→Value) (a3:OneCell enc) (k:β→β→Int) (a6:SWO (ltOf k)) (s off cap:Nat) (d:Array β) (w:World),
   CmpLays1 P g cb enc k s off d.size w→Holds enc w s off d→s<w.heap.size→d.size<4611686018427387904→
   Calls P f #[.slice (some ⟨s,off,none⟩) d.size cap,.func (.func g) #[] cb] w fun e n=>e=.returned (.tuple #[])∧∃a R m,PermIn 0 d.size d a∧SortedIn (ltOf k) 0 d.size a∧n=sortWorld enc w s off R a m)(c2:∀(K:World),Tr True B A w A K→(∀j,K.heap.size≤j→A j)→∀(x y c:Int),q x y=some c→Ret P g (#[.int .i64 x,.int .i64 y]++cb) K fun v n=>v=.int .i64 c∧Kp True K n)(a7:Hp B A w L)(hi:L[i]?=some (obS e v l))(hB:B≤w.heap.size)(a8:∀j,w.heap.size≤j→A j)(d1:jQ q l=some r):
  Ret P f #[v,.func (.func g) #[] cb] w fun u n=>u=.tuple #[]∧Hp B A n (L.set i (obS e v r))∧Tr Dw B A w A n:=by{
 obtain⟨p,rfl⟩:=zhY d1;obtain⟨e0,a9,z,b7⟩:=a7.at hi;by_cases S:l=[];subst S
 have d2:∃b c,v=.slice b 0 c:=by
  rcases a9 with ⟨rfl,_,_⟩|⟨h,cap,H,d3,rfl,_⟩
  exact⟨_,_,rfl⟩
  exact⟨_,_,rfl⟩
 obtain⟨b,c,rfl⟩:=d2;refine Calls.mono (d0 b c w) ?_;rintro _ _⟨rfl,rfl⟩;refine⟨_,rfl,rfl,?_,.refl a8⟩;rw[List.mergeSort_nil]
 have:L.set i (obS (α:=Int) e (.slice b 0 c) [])=L:=by
  apply List.ext_getElem?
  intro d9
  rw[List.getElem?_set]
  split
  rename_i U
  subst U
  split
  exact hi.symm
  rename_i hk2
  rw[List.getElem?_eq_none (by omega)]at hi
  cases hi
  rfl
 rw[this];exact a7;rcases a9 with ⟨_,rfl,_⟩|⟨h,cap,H,d3,rfl,rfl,M,b0,d4,W,d5,b1⟩;exact absurd rfl S;have T:GoT.cells Int=1:=rfl;rw[T,Nat.mul_one]at W b1;have c3:=ziA.1 d5;have X:=(Array.getElem?_eq_some_iff.1 M).1;have a4:=z h (by simp)
 have b8:0<l.length:=by cases l with
  | nil=>exact absurd rfl S
  | cons x l=>simp
 haveI:Inhabited { x:Int // x∈l }:=⟨⟨l[0],List.getElem_mem b8⟩⟩;let enc : { x:Int // x∈l }→Value:=fun b=>.int .i64 b.1;have a3:OneCell enc:=fun _=>rfl;let k : { x:Int // x∈l }→{ x:Int // x∈l }→Int:=fun x y=>(q x.1 y.1).getD 0
 have I:∀x y,ltOf k x y=QE q x.1 y.1:=by
  intro x y
  obtain⟨c,N⟩:=p.says _ x.2 _ y.2
  simp[ltOf,k,QE,N]
 have a6:SWO (ltOf k):=by
  refine⟨fun x=>?_,fun x y Z o D=>?_,fun x y Z o D=>?_⟩
  rw[I];exact p.irrefl _ x.2
  rw[I]at o D ⊢;exact p.trans _ x.2 _ y.2 _ Z.2 o D
  rw[I]at o D ⊢;exact p.ntrans _ x.2 _ y.2 _ Z.2 o D
 have a5:∀(b2:Prop) (G:Nat) (E:Array { x:Int // x∈l }) (m:Array Obj),Mv b2 B A w A (sortWorld enc w h 0 G E m) (some h):=fun b2 G E m=>zra enc w h G E m X ⟨a4.1,a4.2.2⟩ a8;have c4:l.attach.map (fun b=>b.1)=l:=List.attach_map_subtype_val l
 have b9:CmpLays1 P g cb enc k h 0 l.attach.toArray.size w:=by
  intro G m E _ x y
  obtain⟨c,N⟩:=p.says _ x.2 _ y.2
  have F:=a5 True G E m
  have:=c2 _ (F.tr hB) F.new x.1 y.1 c N
  refine Calls.mono this ?_
  rintro _ n⟨_,rfl,rfl,c5⟩
  exact⟨by simp[k,N],c5.eqn⟩
 have b5:Holds enc w h 0 l.attach.toArray:=by
  intro b3 O
  simp at O
  constructor
  simp only[World.cell?,M,Nat.zero_add]
  have:(H.toList.take l.length)[b3]?=(l.map (Value.int .i64))[b3]?:=by rw[b1,c3]
  rw[List.getElem?_take,if_pos O,List.getElem?_map,List.getElem?_eq_getElem O]at this
  simpa [O,enc]using this
  simp[World.frozen?,M]
 have J:l.attach.toArray.size=l.length:=by simp
 have a1:=o enc a3 k a6 h 0 cap l.attach.toArray w b9 b5 X (by rw[J];exact p.len);rw[J]at a1;refine Calls.mono a1 ?_;rintro _ _⟨rfl,a,R,m,a2,b6,rfl⟩;refine⟨_,rfl,rfl,?_⟩;have Q:a.size=l.length:=by rw[a2.1,J]
 have c6:a.toList.Perm l.attach:=by
  have b4:=a2.2.2
  have d6:a.extract 0 l.length=a:=by rw[← Q];exact Array.extract_size
  have d7:l.attach.toArray.extract 0 l.length=l.attach.toArray:=by rw[← J];exact Array.extract_size
  rw[d6,d7]at b4
  simpa using b4
 have c7:a.toList.Pairwise fun x y=>QE q y.1 x.1=false:=by
  rw[List.pairwise_iff_getElem]
  intro a0 j d8 z c8
  have c9:a0<a.size:=by simpa using d8
  have t:j<a.size:=by simpa using z
  have:=b6 a0 j (Nat.zero_le _) c8 (by omega)
  rw[I,getElem!_pos a a0 c9,getElem!_pos a j t]at this
  simpa using this
 have c0:=zoH p l.attach a.toList c4 c6 c7;rw[← c0];have F:=a5 Dw R a m;have hlen:(a.toList.map fun b=>b.1).length=l.length:=by simp[Q]
 have c1:(sortWorld enc w h 0 R a m).heap[h]?=some (.cells (putCells enc 0 a H) e (0,0)):=by
  unfold sortWorld
  rw[heap_grow_old _ _ (by simpa [putRow,mapBlock,Go.Sort.ahead]using X)]
  simp only[putRow,mapBlock,Go.Sort.ahead,Array.getElem?_modify,if_pos rfl,M]
  rfl
 refine⟨b7 A _ (some h) (obS e (.slice (some ⟨h,0,none⟩) l.length cap) (a.toList.map fun b=>b.1)) [h] F (fun d9 U=>by cases U;simp) ?_ fun j t=>⟨.inl t,(z j t).1,(z j t).2.2⟩,F.tr hB⟩;refine .inr ⟨h,cap,_,(a.toList.map fun b=>b.1).map (Value.int .i64),by rw[hlen],rfl,c1,by rw[hlen];exact b0,d4,by rw[T,Nat.mul_one];simpa [putCells]using W,ziA.2 rfl,?_⟩;have:=zfQ enc a.toList H (by rw[Array.length_toList,Q,W];exact b0);rw[hlen,T,Nat.mul_one];rw[Array.length_toList,Q,Array.toArray_toList]at this;rw[this,List.map_map];rfl}
end
end Go.Gw
