import Derived.Test.YtligccioljhapaaGreatDoorGh
import Derived.RangeFuncLeaves
namespace Go.Gw
open Go Go.RowKit Go.Pu
variable{Dw:Prop}
set_option linter.unusedSimpArgs false
set_option linter.unusedVariables false
theorem Kp.tr{B:Nat}{A:Nat→Prop}{w a:World}(c:Kp Dw w a)(d:∀b,w.heap.size≤b→A b)(hB:B≤w.heap.size):Tr Dw B A w A a:=(Mv.kp c d).tr hB
theorem Tr.kp{A b:Nat→Prop}{w a:World}(c:Tr Dw w.heap.size A w b a):Kp Dw w a:=c.below
def CallV(P:Program)(fv:Value)(args:List Value)(w:World)(R:Value→World→Prop):Prop :=
 ∀(ro:Option Nat) (a:Act) (d:Option Tmp) (ty:TypeId) (pos:String) (af:Array Edge) (x:Operand) (xs:Array Operand) (ats:Array TypeId) (K:Act→World→Prop) (Q:Exit→Act→World→Prop),
  a.eval x=fv→xs.toList.map a.eval=args→(∀v w',R v w'→K (a.put d v) w')→Oper.wpIn (FR ro) 0 P ⟨d,.call ⟨.value x,xs,ats⟩,ty,pos,af,none⟩ a w K Q
theorem CallV.mono{P:Program}{c:Value}{b:List Value}{w:World}{R e:Value→World→Prop}(o:CallV P c b w R)(g:∀v a,R v a→e v a):CallV P c b w e :=
 fun h p d ty pos af x i f q Q j l m=>o h p d ty pos af x i f q Q j l fun v a n=>m v a (g v a n)
theorem CallV.func{P:Program}{f:FuncId}{fst cap vals:Array Value}{a:List Value}{w:World}{R:Value→World→Prop}(g:∀(a:Array Value) (w:World),(callFunc f a).run P w=.ok (.enter f a) w)(h:fst++a.toArray++cap=vals)(b:Ret P f vals w R):CallV P (.func (.func f) fst cap) a w R:=by{
 intro r e d ty pos af x c j s Q m l n;refine⟨fun _ _=>trivial,?_⟩;have o:c.map e.eval=a.toArray:=by apply Array.toList_inj.1;rw[Array.toList_map,l]
 have i:(execOp e.eval ⟨d,.call ⟨.value x,c,j⟩,ty,pos,af,none⟩).run P w=.ok (.enter f (fst++a.toArray++cap)) w:=by
  simp only[execOp,resolve,o,m,Deferred.ofValue,pure_bind,invoke,g]
 rw[je i (fun d b=>by cases b),Oper.uponIn_enter,h];refine⟨zeP _,zhM (Calls.mono b ?_)⟩;rintro t p⟨v,rfl,q⟩;exact n v p q}
theorem zmy{ro c:Option Nat}{n m:Nat}{P:Program}{l:Nat}{f:FuncId}{b:Array Value}{a body:Code}{w:World}{R:Ending→World→Prop}(h:RoundIn (FR ro) n P l f b a body w R):RoundIn (FR c) m P l f b a body w R :=
 ⟨trivial,fun i e _=>h.2 i e (fun d g=>by cases g)⟩
theorem CallV.yield{P:Program}{l:Nat}{a:Loop}{c:List Value}{w:World}{R:Value→World→Prop}(o:w.heap[l]?=some (.loop a))(p:c.toArray.size=a.params.size)(g:RoundIn (FR none) 0 P l a.fn ((a.params.zip c.toArray).foldl (fun e (t,b)=>e.setIfInBounds t b) a.tmps) a.assign a.body w fun i f=>∃v,i=.returned v∧R v f):
  CallV P (.func (.yield l) #[] #[]) c w R:=by{
 intro z b d ty pos af x h m A Q q n r;refine⟨fun _ _=>trivial,?_⟩;have s:h.map b.eval=c.toArray:=by apply Array.toList_inj.1;rw[Array.toList_map,n]
 have j:(execOp b.eval ⟨d,.call ⟨.value x,h,m⟩,ty,pos,af,none⟩).run P w=.ok (.round l a.fn ((a.params.zip c.toArray).foldl (fun e (t,b)=>e.setIfInBounds t b) a.tmps) a.assign a.body) w:=by
  have u:=run_yield (P:=P) o p
  simp only[execOp,resolve,s,q,Deferred.ofValue,pure_bind,invoke]
  simpa using u
 rw[je j (fun d g=>by cases g),Oper.uponIn_round];refine⟨zeP _,zmy (RoundIn.mono g ?_)⟩;rintro i f⟨v,rfl,y⟩;exact r v f y}
section steps
variable{P:Program}{n:Fr}{ops:Array Oper}{Q:Exit→Act→World→Prop}{E:Env}{w:World}{rest:List Oper}{d:Nat}{ty:TypeId}{pos:String}{af:Array Edge}
end steps
def bodyM(P:Program)(fn:Func)(R:Value→World→Prop):Exit→Act→World→Prop:=bodyPostM (FR none) 0 P fn fun e w'=>∃v,e=.returned v∧R v w'
def Res(P:Program)(fn:Func)(E:Env)(n:Fr)(w:World)(v:Value):Prop:=∀a,Has n a E→(results fn a.tmps).run P w=.ok v w
section ret
variable{P:Program}{n:Fr}{fn:Func}{E:Env}{w:World}{R:Value→World→Prop}{v x y:Value}{t u s:Nat}
theorem Res.zero(a:fn.results=#[]):Res P fn E n w (.tuple #[]):=fun b _=>by simp[results,a]
theorem Res.one(a:fn.results=#[.tmp t])(b:E.get t=some v):Res P fn E n w v:=fun d c=>by rw[results_tmp a,c.getD b]
theorem Res.two(b:fn.results=#[.tmp t,.tmp u])(c:E.get t=some v)(d:E.get u=some x):Res P fn E n w (.tuple #[v,x]):=fun e a=>by rw[results_tmp2 b,a.getD c,a.getD d]
theorem Res.three(c:fn.results=#[.tmp t,.tmp u,.tmp s])(d:E.get t=some v)(e:E.get u=some x)(f:E.get s=some y):Res P fn E n w (.tuple #[v,x,y]):=fun a b=>by
 rw[show (results fn a.tmps).run P w=.ok (.tuple #[a.tmps.getD t undef,a.tmps.getD u undef,a.tmps.getD s undef]) w by simp[results,c],b.getD d,b.getD e,b.getD f]
theorem retQ(c:n.ds=[])(d:Res P fn E n w v)(e:R v w):∀a,Has n a E→zeL P fn R .ret a w:=fun a b=>⟨b.defers.trans c,v,d a b,v,rfl,e⟩
theorem zbF{a:Act}(b:zeL P fn R .ret a w):zeL P fn R .normal a w:=b
end ret
theorem Hp.put{B:Nat}{A:Nat→Prop}{w:World}{L:List Ob}{i b:Nat}{o:Obj}(e:Obj)(d:Hp B A w L)(hi:L[i]?=some (obO b o))(hB:B≤w.heap.size)(n:∀b,w.heap.size≤b→A b):
  Hp B A (w.putObj b e) (L.set i (obO b e))∧Tr Dw B A w A (w.putObj b e):=by{
 obtain⟨q,⟨rfl,hp⟩,c,j⟩:=d.at hi;have l:=(c b (by simp)).2.1
 have h:Mv Dw B A w A (w.putObj b e) (some b) :=
  ⟨rfl,rfl,rfl,by simp,fun _=>Nat.le_refl _,fun k f m=>World.putObj_heap_other (fun p=>m (by rw[p])),fun k f=>by cases f;exact⟨(c b (by simp)).1,(c b (by simp)).2.2⟩,fun _ d=>d,fun _ _ d=>d,fun g a=>n g (by simpa using a)⟩
 exact⟨j A _ (some b) _ _ h (fun k f=>by cases f;simp) ⟨rfl,World.putObj_heap_same l⟩ fun g a=>⟨.inl a,(c g a).1,(c g a).2.2⟩,h.tr hB⟩}
def zlY:Exit→Option (Option Code)
 | .normal=>some none
 | .ret=>some (some .ret)
 | .exit id=>some (some (.exit id))
 | _=>none
def Rd(P:Program)(n:Fr)(l:Nat)(assign body:Code)(Q:Exit→Act→World→Prop)(E:Env)(w:World):Prop :=
 C P n assign (Exit.then (fun a₁ w₁=>∃w₂,(Instr.beginRound l).run P w₁=.ok () w₂∧body.wpIn (FR n.ro) 0 P Q a₁ w₂) (fun _ _ _=>False)) E w
def rpost{S:Type}(B:Nat)(A:Nat→Prop)(w:World)(I:S→Ob)(r1:Ob)(L:List Ob)(jump:Nat→Code)(s':S)(j:Option Nat):Exit→Act→World→Prop :=
 fun e _ w'=>zlY e=some (j.map jump)∧∃A',Tr Dw B A w A' w'∧Hp B A' w' (I s'::r1::L)
def znd:List Nat→List Value→Env
 | p::ps,v::vs=>(p,v)::znd ps vs
 | _,_=>[]
end Go.Gw
