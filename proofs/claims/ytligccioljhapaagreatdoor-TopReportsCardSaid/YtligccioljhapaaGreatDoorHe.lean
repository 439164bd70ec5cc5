import Derived.Test.YtligccioljhapaaGreatDoorGz
import Derived.Test.YtligccioljhapaaGreatDoorPu
import Derived.Shelf.SlSortCmp.NoneTotal
namespace Go.Gw
open Go Go.RowKit Go.Pu Go.Sort Go.Proofs
variable{Dw:Prop}
set_option linter.unusedSimpArgs false
set_option linter.unusedVariables false
theorem Kp.eqn{w w':World}(a:Kp True w w'):∃l b,w'=grow (w.drewN l) b:=by{
 refine⟨w'.drawn-w.drawn,w'.heap.extract w.heap.size w'.heap.size,?_⟩;have c:=a.dr trivial;obtain⟨hp,d,m,b,out⟩:=w';simp only at c;have e:d=w.tape:=a.tape;have f:b=w.os:=a.os;have g:out=w.output:=a.output;subst e f g;have n:w.heap.size≤hp.size:=a.size
 have h:hp=w.heap++hp.extract w.heap.size hp.size:=by
  apply Array.ext
  simp;omega
  intro i j o
  rw[Array.getElem_append]
  split
  rename_i h3
  have:=a.block i h3
  simp only at this
  rw[Array.getElem?_eq_getElem j,Array.getElem?_eq_getElem h3]at this
  exact Option.some.inj this
  simp
  congr 1
  omega
 unfold grow World.drewN;simp only[World.mk.injEq,true_and,and_true];exact⟨h,by omega⟩}
section
variable{β:Type}[Inhabited β]
theorem zhV(enc:β→List Value)(k:Nat)(b:∀g,(enc g).length=k):∀(a:List β) (t:Nat),t<a.length*k→(a.map enc).flatten[t]?=some ((enc a[t / k]!)[t % k]!)
 | [],t,h=>by simp at h
 | i::a,t,h=>by
  have k0:0<k:=by
   rcases Nat.eq_zero_or_pos k with d|d
   ·subst d;simp at h
   ·exact d
  rw[List.map_cons,List.flatten_cons]
  by_cases c:t<k
  ·rw[List.getElem?_append_left (by rw[b];exact c),Nat.div_eq_of_lt c,Nat.mod_eq_of_lt c]
   rw[List.getElem?_eq_getElem (by rw[b];exact c)]
   simp[b,c]
  ·rw[List.getElem?_append_right (by rw[b];omega),b]
   have j:(i::a).length*k=a.length*k+k:=by rw[List.length_cons,Nat.succ_mul]
   rw[zhV enc k b a (t-k) (by omega)]
   have e:t / k=(t-k) / k+1:=Nat.div_eq_sub_div k0 (by omega)
   have f:t % k=(t-k) % k:=Nat.mod_eq_sub_mod (by omega)
   rw[e,f]
   simp
theorem zha(enc:β→List Value)(k:Nat)(e:∀g,(enc g).length=k)(a:Array β):(flatK enc k a).toList=(a.toList.map enc).flatten:=by{
 have h:(a.toList.map enc).flatten.length=a.size*k:=by
  rw[List.length_flatten]
  have:(List.map List.length (a.toList.map enc))=List.replicate a.size k:=by
   rw[List.map_map]
   apply List.ext_getElem
   simp
   intro i j c
   simp[e]
  rw[this]
  simp
 apply List.ext_getElem?;intro b;by_cases d:b<a.size*k;rw[zhV enc k e a.toList b (by simpa using d)];have f:b<(flatK enc k a).size:=by simpa using d
 rw[Array.getElem?_toList,Array.getElem?_eq_getElem f, ← getElem!_pos (flatK enc k a) b f,get_flatK enc k a b d];congr 3;by_cases c:b / k<a.size;simp[c];simp[c];rw[List.getElem?_eq_none (by simp;omega),List.getElem?_eq_none (by omega)]}
end
section
variable{α:Type}[GoT α]{P:Program}{f g:FuncId}{cb:Array Value}{B:Nat}{A:Nat→Prop}{w:World}{L:List Ob}{i:Nat}{e:TypeId}{v:Value}
abbrev Pr(A:Nat→Prop)(w:World)(l:List α):Type := { p:List Value×α // GoT.rep A w p.1 p.2∧p.2∈l }
theorem zlO{A:Nat→Prop}{w:World}{l0:List α}:∀{l:List α} {cs:List Value},repL A w cs l→(∀b∈l,b∈l0)→∃a:List (Pr A w l0),a.map (fun c=>c.1.2)=l∧(a.map fun c=>c.1.1).flatten=cs
 | [],cs,h,_=>⟨[],rfl,by have:cs=[]:=h;rw[this];rfl⟩
 | b::l,cs,h,hm=>by
  obtain⟨c1,c2,rfl,h1,h2⟩:=h
  obtain⟨a,e,f⟩:=zlO h2 fun g d=>hm g (List.mem_cons_of_mem _ d)
  exact⟨⟨(c1,b),h1,hm b (List.mem_cons_self ..)⟩::a,by simp[e],by simp[f]⟩
theorem ziN{A A1:Nat→Prop}{w w1:World}{l0:List α}(hx:Ex A w A1 w1):∀ps:List (Pr A w l0),repL A1 w1 ((ps.map fun p=>p.1.1).flatten) (ps.map fun p=>p.1.2)
 | []=>rfl
 | p::ps=>⟨p.1.1,_,rfl,GoT.keep p.2.1 hx,ziN hx ps⟩
theorem zkY{A:Nat→Prop}{w:World}{f:α→α→Option Int}{l:List α}(n:zhA f l)(i h:List (Pr A w l))(t:i.map (fun d=>d.1.2)=l)(hp:h.Perm i)(u:h.Pairwise fun d q=>QV f q.1.2 d.1.2=false):
  h.map (fun d=>d.1.2)=l.mergeSort fun c e=>!(QV f e c):=by{
 let γ := { c:α // c∈l };let G:Pr A w l→γ:=fun d=>⟨d.1.2,d.2.2⟩;let le:γ→γ→Bool:=fun c e=>!(QV f e.1 c.1);have g:∀(c e:γ),le c e=true↔QV f e.1 c.1=false:=fun c e=>by simp[le]
 have r:∀b a j:γ,le b a=true→le a j=true→le b j=true:=fun b a j p m=>(g b j).2 (n.ntrans _ j.2 _ a.2 _ b.2 ((g a j).1 m) ((g b a).1 p))
 have s:∀b a:γ,(le b a||le a b)=true:=fun b a=>by
  rw[Bool.or_eq_true]
  by_cases o:QV f a.1 b.1=false
  exact .inl ((g b a).2 o)
  refine .inr ((g a b).2 ?_)
  cases m:QV f b.1 a.1 with
  | false=>rfl
  | true =>
   have:=n.trans _ a.2 _ b.2 _ a.2 (by simpa using o) m
   rw[n.irrefl _ a.2]at this
   cases this
 have p:(h.map G).Perm ((i.map G).mergeSort le):=(hp.map G).trans (List.mergeSort_perm _ _).symm
 have m:(h.map G)=(i.map G).mergeSort le:=by
  refine List.Perm.eq_of_pairwise (le:=fun c e=>le c e=true) ?_ ?_ ?_ p
  intro b a _ _ v x
  exact Subtype.ext (n.total _ b.2 _ a.2 ((g a b).1 x) ((g b a).1 v))
  rw[List.pairwise_map]
  exact u.imp fun {d q} o=>(g (G d) (G q)).2 o
  exact List.pairwise_mergeSort r s _
 have y:h.map (fun d=>d.1.2)=(h.map G).map (fun c=>c.1):=by rw[List.map_map];rfl
 rw[y,m,List.map_mergeSort (s:=fun c e=>!(QV f e c)) (fun b _ a _=>rfl),List.map_map];have:i.map ((fun c:γ=>c.1) ∘ G)=i.map fun d=>d.1.2:=rfl;rw[this,t]}
theorem zla{β:Type}[Inhabited β](enc:β→List Value)(k:Nat)(w:World)(g m:Nat)(c:Array β)(os:Array Obj)(f:g<w.heap.size)(b:Nat)(d:b<w.heap.size)(a:b≠g):(sortWorldK enc k w g 0 m c os).heap[b]?=w.heap[b]?:=by{unfold sortWorldK;rw[heap_grow_old _ _ (by simpa [putRowK,putRow,mapBlock,Go.Sort.ahead]using d)];simp only[putRowK,putRow,mapBlock,Go.Sort.ahead,Array.getElem?_modify];rw[if_neg (fun e=>a e.symm)]}
theorem zmz{β:Type}[Inhabited β](enc:β→List Value)(k:Nat)(w:World)(g m:Nat)(d:Array β)(os:Array Obj)(h:g<w.heap.size)(hB:B≤g∧¬A g)(i:∀a,w.heap.size≤a→A a):Mv Dw B A w A (sortWorldK enc k w g 0 m d os) (some g):=by{
 have e:w.heap.size≤(sortWorldK enc k w g 0 m d os).heap.size:=by simp[sortWorldK,putRowK,putRow,mapBlock,Go.Sort.ahead,grow]
 exact⟨rfl,rfl,rfl,e,fun _=>Nat.le_add_right _ _,fun a b f=>zla enc k w g m d os h a b (fun c=>f (by rw[c])),fun a b=>by cases b;exact hB,fun _ c=>c,fun _ _ c=>c,fun a b=>i a (Nat.le_trans e b)⟩}
theorem Hp.sortFuncK{E:α→α→Option Int}{l r:List α}(d8:∀(p:Option Addr) (c:Nat) (w:World),Calls P f #[.slice p 0 c,.func (.func g) #[] cb] w fun e n=>e=.returned (.tuple #[])∧n=w)(s:∀{β:Type} [Inhabited β] (enc:β→List Value) (o:∀x,(enc x).length=GoT.cells α) (a7:∀x,∀v∈enc x,v.oneCell'=true) (j:β→β→Int) (b3:SWO (ltOf j)) (F off cap:Nat) (z:Array β) (w:World),
   CmpLays P g cb enc (GoT.cells α) j F off z.size w→HoldsK enc (GoT.cells α) w F off z→F<w.heap.size→z.size<4611686018427387904→
   Calls P f #[.slice (some ⟨F,off,none⟩) z.size cap,.func (.func g) #[] cb] w fun e n=>e=.returned (.tuple #[])∧∃a T m,PermIn 0 z.size z a∧SortedIn (ltOf j) 0 z.size a∧n=sortWorldK enc (GoT.cells α) w F off T a m)(a8:∀(D:World),Tr True B A w A D→(∀h,D.heap.size≤h→A h)→∀(x y:α) (b4 b5:List Value) (c:Int),GoT.rep A D b4 x→GoT.rep A D b5 y→E x y=some c→
   Ret P g (#[.agg b4.toArray,.agg b5.toArray]++cb) D fun v n=>v=.int .i64 c∧Kp True D n)(b6:Hp B A w L)(hi:L[i]?=some (obS e v l))(hB:B≤w.heap.size)(b7:∀h,w.heap.size≤h→A h)(d9:zbx E l=some r):
  Ret P f #[v,.func (.func g) #[] cb] w fun u n=>u=.tuple #[]∧Hp B A n (L.set i (obS e v r))∧Tr Dw B A w A n:=by{
 obtain⟨t,rfl⟩:=zhE d9;obtain⟨f0,hp,I,c5⟩:=b6.at hi;by_cases Z:l=[];subst Z
 have e0:∃p c,v=.slice p 0 c:=by
  rcases hp with ⟨rfl,_,_⟩|⟨b,cap,G,J,rfl,_⟩
  exact⟨_,_,rfl⟩
  exact⟨_,_,rfl⟩
 obtain⟨p,c,rfl⟩:=e0;refine Calls.mono (d8 p c w) ?_;rintro _ _⟨rfl,rfl⟩;refine⟨_,rfl,rfl,?_,.refl b7⟩;rw[List.mergeSort_nil]
 have:L.set i (obS (α:=α) e (.slice p 0 c) [])=L:=by
  apply List.ext_getElem?
  intro k
  rw[List.getElem?_set]
  split
  rename_i o
  subst o
  split
  exact hi.symm
  rename_i hk2
  rw[List.getElem?_eq_none (by omega)]at hi
  cases hi
  rfl
 rw[this];exact b6;rcases hp with ⟨_,rfl,_⟩|⟨b,cap,G,J,rfl,rfl,R,b8,e1,b9,c0,e2⟩;exact absurd rfl Z;have a0:=(Array.getElem?_eq_some_iff.1 R).1;have a9:=I b (by simp);obtain⟨d,c1,e4⟩:=zlO (l0:=l) c0 fun x e3=>e3;have c9:d.length=l.length:=by have U:=congrArg List.length c1;simpa using U
 have e8:0<l.length:=by cases l with
  | nil=>exact absurd rfl Z
  | cons x l=>simp
 haveI:Inhabited (Pr A w l):=⟨d[0]'(by omega)⟩;let enc:Pr A w l→List Value:=fun p=>p.1.1;have o:∀x:Pr A w l,(enc x).length=GoT.cells α:=fun x=>GoT.len x.2.1;have a7:∀x:Pr A w l,∀v∈enc x,v.oneCell'=true:=fun x=>GoT.one x.2.1;let j:Pr A w l→Pr A w l→Int:=fun x y=>(E x.1.2 y.1.2).getD 0
 have O:∀x y:Pr A w l,ltOf j x y=QV E x.1.2 y.1.2:=by
  intro x y
  obtain⟨c,S⟩:=t.says _ x.2.2 _ y.2.2
  simp[ltOf,j,QV,S]
 have b3:SWO (ltOf j):=by
  refine⟨fun x=>?_,fun x y a3 s K=>?_,fun x y a3 s K=>?_⟩
  rw[O];exact t.irrefl _ x.2.2
  rw[O]at s K ⊢;exact t.trans _ x.2.2 _ y.2.2 _ a3.2.2 s K
  rw[O]at s K ⊢;exact t.ntrans _ x.2.2 _ y.2.2 _ a3.2.2 s K
 have b0:∀(c2:Prop) (N:Nat) (M:Array (Pr A w l)) (m:Array Obj),Mv c2 B A w A (sortWorldK enc (GoT.cells α) w b 0 N M m) (some b):=fun c2 N M m=>zmz enc _ w b N M m a0 ⟨a9.1,a9.2.2⟩ b7
 have c6:CmpLays P g cb enc (GoT.cells α) j b 0 d.toArray.size w:=by
  intro N m M _ x y
  obtain⟨c,S⟩:=t.says _ x.2.2 _ y.2.2
  have q:=b0 True N M m
  have:=a8 _ (q.tr hB) q.new x.1.2 y.1.2 (enc x) (enc y) c (GoT.keep x.2.1 q.ex) (GoT.keep y.2.1 q.ex) S
  refine Calls.mono this ?_
  rintro _ n⟨_,rfl,rfl,d0⟩
  exact⟨by simp[j,S],d0.eqn⟩
 have b1:(flatK enc (GoT.cells α) d.toArray).toList=J:=by rw[zha enc _ o];exact e4
 have c3:HoldsK enc (GoT.cells α) w b 0 d.toArray:=by
  intro W a1
  have e9:W<J.length:=by rw[← b1,Array.length_toList];exact a1
  have a8:J.length=l.length*GoT.cells α:=c0.len
  constructor
  have d1:G[W]?=J[W]?:=by
   rw[← e2,List.getElem?_take,if_pos (by omega),Array.getElem?_toList]
  simp only[World.cell?,R,Nat.zero_add]
  rw[if_neg (by simp),d1, ← b1,Array.getElem?_toList,Array.getElem?_eq_getElem a1,getElem!_pos (flatK enc (GoT.cells α) d.toArray) W a1]
  rfl
  simp[World.frozen?,R]
 have Q:d.toArray.size=l.length:=by simpa using c9
 have a5:=s enc o a7 j b3 b 0 cap d.toArray w c6 c3 a0 (by rw[Q];exact t.len);rw[Q]at a5;refine Calls.mono a5 ?_;rintro _ _⟨rfl,a,T,m,a6,c4,rfl⟩;refine⟨_,rfl,rfl,?_⟩;have a2:a.size=l.length:=by rw[a6.1,Q]
 have d2:a.toList.Perm d:=by
  have U:=a6.2.2
  have e5:a.extract 0 l.length=a:=by rw[← a2];exact Array.extract_size
  have e6:d.toArray.extract 0 l.length=d.toArray:=by rw[← Q];exact Array.extract_size
  rw[e5,e6]at U
  simpa using U
 have d3:a.toList.Pairwise fun x y=>QV E y.1.2 x.1.2=false:=by
  rw[List.pairwise_iff_getElem]
  intro a4 h e7 I d4
  have d5:a4<a.size:=by simpa using e7
  have H:h<a.size:=by simpa using I
  have:=c4 a4 h (Nat.zero_le _) d4 (by omega)
  rw[O,getElem!_pos a a4 d5,getElem!_pos a h H]at this
  simpa using this
 have c7:=zkY t d a.toList c1 d2 d3;rw[← c7];have q:=b0 Dw T a m;have X:(a.toList.map fun p=>p.1.2).length=l.length:=by simp[a2]
 have c8:(sortWorldK enc (GoT.cells α) w b 0 T a m).heap[b]?=some (.cells (putCells id 0 (flatK enc (GoT.cells α) a) G) e (0,0)):=by
  unfold sortWorldK
  rw[heap_grow_old _ _ (by simpa [putRowK,putRow,mapBlock,Go.Sort.ahead]using a0)]
  simp only[putRowK,putRow,mapBlock,Go.Sort.ahead,Array.getElem?_modify,if_pos rfl,R]
  rfl
 refine⟨c5 A _ (some b) (obS e (.slice (some ⟨b,0,none⟩) l.length cap) (a.toList.map fun p=>p.1.2)) [b] q (fun k o=>by cases o;simp) ?_ fun h H=>⟨.inl H,(I h H).1,(I h H).2.2⟩,q.tr hB⟩;refine .inr ⟨b,cap,_,(a.toList.map fun p=>p.1.1).flatten,by rw[X],rfl,c8,by rw[X];exact b8,e1,by simpa [putCells]using b9,ziN q.ex _,?_⟩;have d6:(flatK enc (GoT.cells α) a).toList=(a.toList.map fun p=>p.1.1).flatten:=zha enc _ o a;have b2:(flatK enc (GoT.cells α) a).size=l.length*GoT.cells α:=by rw[size_flatK,a2]
 have d7:l.length*GoT.cells α≤G.size:=by rw[b9];exact Nat.mul_le_mul_right _ b8
 have:=zdn id (flatK enc (GoT.cells α) a).toList G (by rw[Array.length_toList,b2];exact d7);rw[X];rw[Array.length_toList,b2,List.map_id,Array.toArray_toList]at this;rw[this,d6]}
end
section
variable{P:Program}{f g:FuncId}{cb:Array Value}{B:Nat}{A:Nat→Prop}{w:World}{L:List Ob}{i:Nat}{e:TypeId}{v:Value}
end
end Go.Gw
