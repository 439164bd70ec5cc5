import Derived.Test.YtdpmeckhhcjoiaaGreatDoorGh
import Derived.RangeFuncLeaves
namespace Go.Gw
open Go Go.RowKit Go.Pu
variable{Dw:Prop}
set_option linter.unusedSimpArgs false
set_option linter.unusedVariables false
theorem Kp.tr{B:Nat}{A:Nat→Prop}{w a:World}(c:Kp Dw w a)(d:∀b,w.heap.size≤b→A b)(hB:B≤w.heap.size):Tr Dw B A w A a:=(Mv.kp c d).tr hB
theorem Tr.kp{A b:Nat→Prop}{w a:World}(c:Tr Dw w.heap.size A w b a):Kp Dw w a:=c.below
def CallV(P:Program)(fv:Value)(args:List Value)(w:World)(R:Value→World→Prop):Prop :=
 ∀(ro:Option Nat) (a:Act) (d:Option Tmp) (ty:TypeId) (pos:String) (af:Array Edge) (x:Operand) (xs:Array Operand) (ats:Array TypeId) (K:Act→World→Prop) (Q:Exit→Act→World→Prop),
  a.eval x=fv→xs.toList.map a.eval=args→(∀v w',R v w'→K (a.put d v) w')→Oper.wpIn (FR ro) 0 P ⟨d,.call ⟨.value x,xs,ats⟩,ty,pos,af,none⟩ a w K Q
theorem CallV.mono{P:Program}{c:Value}{b:List Value}{w:World}{R R':Value→World→Prop}(m:CallV P c b w R)(f:∀v a,R v a→R' v a):CallV P c b w R' :=
 fun g n d ty pos af x h e o Q i j k=>m g n d ty pos af x h e o Q i j fun v a l=>k v a (f v a l)
theorem CallV.func{P:Program}{f:FuncId}{fst cap c:Array Value}{a:List Value}{w:World}{R:Value→World→Prop}(h:∀(a:Array Value) (w:World),(callFunc f a).run P w=.ok (.enter f a) w)(i:fst++a.toArray++cap=c)(b:Ret P f c w R):CallV P (.func (.func f) fst cap) a w R:=by{
 intro r g d ty pos af x e k s Q m l n;refine⟨fun _ _=>trivial,?_⟩;have o:e.map g.eval=a.toArray:=by apply Array.toList_inj.1;rw[Array.toList_map,l]
 have j:(execOp g.eval ⟨d,.call ⟨.value x,e,k⟩,ty,pos,af,none⟩).run P w=.ok (.enter f (fst++a.toArray++cap)) w:=by
  simp only[execOp,resolve,o,m,Deferred.ofValue,pure_bind,invoke,h]
 rw[JQ j (fun d b=>by cases b),Oper.uponIn_enter,i];refine⟨zgD _,zkd (Calls.mono b ?_)⟩;rintro t p⟨v,rfl,q⟩;exact n v p q}
theorem zrQ{ro c:Option Nat}{n m:Nat}{P:Program}{l:Nat}{f:FuncId}{b:Array Value}{a body:Code}{w:World}{R:Ending→World→Prop}(h:RoundIn (FR ro) n P l f b a body w R):RoundIn (FR c) m P l f b a body w R :=
 ⟨trivial,fun i e _=>h.2 i e (fun d g=>by cases g)⟩
theorem CallV.yield{P:Program}{l:Nat}{a:Loop}{c:List Value}{w:World}{R:Value→World→Prop}(n:w.heap[l]?=some (.loop a))(o:c.toArray.size=a.params.size)(g:RoundIn (FR none) 0 P l a.fn ((a.params.zip c.toArray).foldl (fun e (t,b)=>e.setIfInBounds t b) a.tmps) a.assign a.body w fun i f=>∃v,i=.returned v∧R v f):
  CallV P (.func (.yield l) #[] #[]) c w R:=by{
 intro y b d ty pos af x h k z Q p m q;refine⟨fun _ _=>trivial,?_⟩;have r:h.map b.eval=c.toArray:=by apply Array.toList_inj.1;rw[Array.toList_map,m]
 have j:(execOp b.eval ⟨d,.call ⟨.value x,h,k⟩,ty,pos,af,none⟩).run P w=.ok (.round l a.fn ((a.params.zip c.toArray).foldl (fun e (t,b)=>e.setIfInBounds t b) a.tmps) a.assign a.body) w:=by
  have s:=run_yield (P:=P) n o
  simp only[execOp,resolve,r,p,Deferred.ofValue,pure_bind,invoke]
  simpa using s
 rw[JQ j (fun d g=>by cases g),Oper.uponIn_round];refine⟨zgD _,zrQ (RoundIn.mono g ?_)⟩;rintro i f⟨v,rfl,u⟩;exact q v f u}
section steps
variable{P:Program}{n:Fr}{ops:Array Oper}{Q:Exit→Act→World→Prop}{E:Env}{w:World}{rest:List Oper}{d:Nat}{ty:TypeId}{pos:String}{af:Array Edge}
theorem zlP{c:Operand}{b:Array Operand}{f:Array TypeId}{g:Value}{vs:List Value}{R:Value→World→Prop}(h:ev E c=some g)(i:evs E b.toList=some vs)(j:Nat.blt d n.sz=true)(k:CallV P g vs w R)(o:∀v a,R v a→V P n ops Q rest ((d,v)::E) a):V P n ops Q (⟨some d,.call ⟨.value c,b,f⟩,ty,pos,af,none⟩::rest) E w:=by{intro p e;refine wpListIn_plain rfl fun q l=>?_;exact k n.ro p (some d) ty pos af c b f q Q (e.eval h) (e.evals i) fun v a m=>l _ _ (o v a m _ (e.put j))}
end steps
def zkH(P:Program)(fn:Func)(R:Value→World→Prop):Exit→Act→World→Prop:=bodyPostM (FR none) 0 P fn fun e w'=>∃v,e=.returned v∧R v w'
theorem zlb{P:Program}{f:FuncId}{fn:Func}{c:Code}{a:Array Value}{w:World}{R:Value→World→Prop}{n:Nat}(h:P.funcs[f]?=some fn)(i:fn.body=some c)(j:fn.ntmps=n)(e:Nat.ble a.size n=true)(l:C P ⟨n, [],none⟩ c (zkH P fn R) (ziU 0 a.toList) w):Ret P f a w R:=by{
 refine zrl (ro:=none) (n:=0) (callsIn_of_wp_marks h i trivial (l _ ⟨?_,rfl,fun t v k=>?_⟩));simp only[Array.size_append,Array.size_replicate,j];have:=Nat.le_of_ble_eq_true e;omega;obtain⟨_,b⟩:=zlV _ _ _ _ k;simp only[Nat.sub_zero,Array.getElem?_toList]at b
 have g:t<a.size:=by
  rcases Nat.lt_or_ge t a.size with d|d
  exact d
  rw[Array.getElem?_eq_none d]at b;cases b
 simp only[];rw[Array.getElem?_append_left g];exact b}
def Res(P:Program)(fn:Func)(E:Env)(n:Fr)(w:World)(v:Value):Prop:=∀a,Has n a E→(results fn a.tmps).run P w=.ok v w
section ret
variable{P:Program}{n:Fr}{fn:Func}{E:Env}{w:World}{R:Value→World→Prop}{v x y:Value}{t u s:Nat}
theorem Res.zero(a:fn.results=#[]):Res P fn E n w (.tuple #[]):=fun b _=>by simp[results,a]
theorem Res.one(a:fn.results=#[.tmp t])(b:E.get t=some v):Res P fn E n w v:=fun d c=>by rw[results_tmp a,c.getD b]
theorem Res.two(b:fn.results=#[.tmp t,.tmp u])(c:E.get t=some v)(d:E.get u=some x):Res P fn E n w (.tuple #[v,x]):=fun e a=>by rw[results_tmp2 b,a.getD c,a.getD d]
theorem Res.three(c:fn.results=#[.tmp t,.tmp u,.tmp s])(d:E.get t=some v)(e:E.get u=some x)(f:E.get s=some y):Res P fn E n w (.tuple #[v,x,y]):=fun a b=>by
 rw[show (results fn a.tmps).run P w=.ok (.tuple #[a.tmps.getD t undef,a.tmps.getD u undef,a.tmps.getD s undef]) w by simp[results,c],b.getD d,b.getD e,b.getD f]
theorem retM(c:n.ds=[])(d:Res P fn E n w v)(e:R v w):∀a,Has n a E→zkH P fn R .ret a w:=fun a b=>by
 show LeavesInM (FR none) 0 P fn a.tmps _ a.defers .returning w
 rw[b.defers.trans c]
 exact⟨v,d a b,v,rfl,e⟩
theorem zgX{D:Nat}(c:n.ds=[{ target := .collected D,args := #[] }])(d:w.heap[D]?=some (.deferred (some [])))(e:Res P fn E n (w.putObj D (.deferred none)) v)(f:R v (w.putObj D (.deferred none))):∀a,Has n a E→zkH P fn R .ret a w:=fun a b=>by
 show LeavesInM (FR none) 0 P fn a.tmps _ a.defers .returning w
 rw[b.defers.trans c]
 exact⟨(by intro b;cases b),.inl ⟨D,_,rfl,run_takeDeferred d,v,e a b,v,rfl,f⟩⟩
theorem retQ(c:n.ds=[])(d:Res P fn E n w v)(e:R v w):∀a,Has n a E→zir P fn R .ret a w:=fun a b=>⟨b.defers.trans c,v,d a b,v,rfl,e⟩
theorem zrJ{a:Act}(b:zir P fn R .ret a w):zir P fn R .normal a w:=b
theorem zsR{a:Act}(b:zkH P fn R .ret a w):zkH P fn R .normal a w:=b
end ret
theorem Hp.put{B:Nat}{A:Nat→Prop}{w:World}{L:List Ob}{i b:Nat}{o:Obj}(e:Obj)(d:Hp B A w L)(hi:L[i]?=some (obO b o))(hB:B≤w.heap.size)(n:∀b,w.heap.size≤b→A b):
  Hp B A (w.putObj b e) (L.set i (obO b e))∧Tr Dw B A w A (w.putObj b e):=by{
 obtain⟨r,⟨rfl,q⟩,c,k⟩:=d.at hi;have l:=(c b (by simp)).2.1
 have h:Mv Dw B A w A (w.putObj b e) (some b) :=
  ⟨rfl,rfl,rfl,by simp,fun _=>Nat.le_refl _,fun j f m=>World.putObj_heap_other (fun p=>m (by rw[p])),fun j f=>by cases f;exact⟨(c b (by simp)).1,(c b (by simp)).2.2⟩,fun _ d=>d,fun _ _ d=>d,fun g a=>n g (by simpa using a)⟩
 exact⟨k A _ (some b) _ _ h (fun j f=>by cases f;simp) ⟨rfl,World.putObj_heap_same l⟩ fun g a=>⟨.inl a,(c g a).1,(c g a).2.2⟩,h.tr hB⟩}
theorem Hp.obj{B:Nat}{A:Nat→Prop}{w:World}{L:List Ob}{i b:Nat}{o:Obj}(c:Hp B A w L)(hi:L[i]?=some (obO b o)):w.heap[b]?=some o:=by{obtain⟨d,⟨rfl,a⟩,_⟩:=c.at hi;exact a}
def zeL:Exit→Option (Option Code)
 | .normal=>some none
 | .ret=>some (some .ret)
 | .exit id=>some (some (.exit id))
 | _=>none
def Rd(P:Program)(n:Fr)(l:Nat)(assign body:Code)(Q:Exit→Act→World→Prop)(E:Env)(w:World):Prop :=
 C P n assign (Exit.then (fun a₁ w₁=>∃w₂,(Instr.beginRound l).run P w₁=.ok () w₂∧body.wpIn (FR n.ro) 0 P Q a₁ w₂) (fun _ _ _=>False)) E w
def zsW{S:Type}(B:Nat)(A:Nat→Prop)(w:World)(I:S→Ob)(r1:Ob)(L:List Ob)(jump:Nat→Code)(s':S)(j:Option Nat):Exit→Act→World→Prop :=
 fun e _ w'=>zeL e=some (j.map jump)∧∃A',Tr Dw B A w A' w'∧Hp B A' w' (I s'::r1::L)
theorem ziW{P:Program}{n:Fr}{l:Nat}{body:Code}{Q:Exit→Act→World→Prop}{E:Env}{w:World}{B:Nat}{A:Nat→Prop}{L:List Ob}{i:Nat}{b:Loop}{a:Act}(d:Hp B A w L)(hi:L[i]?=some (obO l (.loop b)))(g:b.state=.ready)(hB:B≤w.heap.size)(h:∀f,w.heap.size≤f→A f)(o:∀c,Hp B A c (L.set i (obO l (.loop { b with state := .busy })))→Tr Dw B A w A c→C P n body Q E c)(j:Has n a E):
  ∃e,(Instr.beginRound l).run P w=.ok () e∧body.wpIn (FR n.ro) 0 P Q a e:=by{obtain⟨k,m⟩:=d.put (.loop { b with state := .busy }) hi hB h;exact⟨_,run_beginRound (d.obj hi) g,o _ k m a j⟩}
def zia:List Nat→List Value→Env
 | p::ps,v::vs=>(p,v)::zia ps vs
 | _,_=>[]
theorem zmj{n:Fr}{a:Act}{E:Env}:∀(c:List Nat) (vs:List Value),Has n a E→(c.all fun b=>Nat.blt b n.sz&&(E.get b).isNone)=true→c.Nodup→c.length=vs.length→
  Has n { a with tmps:=(c.zip vs).foldl (fun t (b,v)=>t.setIfInBounds b v) a.tmps } (zia c vs++E)
 | [],_,e,_,_,_=>by cases e;exact⟨‹_›, ‹_›,by simpa [zia]⟩
 | b::c, [],_,_,_,hl=>by simp at hl
 | b::c,v::vs,e,hp,hnd,hl=>by
  simp only[List.all_cons,Bool.and_eq_true]at hp
  have h1:=e.put (v:=v) hp.1.1
  have g:=zmj (E:=E) c vs (a:=a.put (some b) v) ⟨h1.size,h1.defers,fun t u d=>h1.get t u (by
   rw[Env.get]
   cases hb:Nat.beq b t with
   | true =>
    have:=Nat.eq_of_beq_eq_true hb
    subst this
    rw[Option.isNone_iff_eq_none.1 hp.1.2]at d
    cases d
   | false=>exact d)⟩ (by simpa using hp.2) (List.nodup_cons.1 hnd).2 (by simpa using hl)
  refine⟨g.size,g.defers,fun t u d=>?_⟩
  simp only[zia,List.cons_append,Env.get]at d
  cases hb:Nat.beq b t with
  | true =>
   rw[hb]at d
   cases d
   have:=Nat.eq_of_beq_eq_true hb
   subst this
   have i:∀(c:List Nat) (vs:List Value) (f:Array Value),b∉c→((c.zip vs).foldl (fun t (b,v)=>t.setIfInBounds b v) f)[b]?=f[b]?:=by
    intro c
    induction c with
    | nil=>intro vs f _;rfl
    | cons q qs ih =>
     intro vs f h
     cases vs with
     | nil=>rfl
     | cons u us =>
      simp only[List.zip_cons_cons,List.foldl_cons]
      rw[ih us _ (fun e=>h (List.mem_cons_of_mem _ e)),Array.getElem?_setIfInBounds_ne (fun j=>h (by simp[j]))]
   simp only[List.zip_cons_cons,List.foldl_cons]
   rw[i c vs _ (List.nodup_cons.1 hnd).1]
   have:=h1.get b v (by simp[Env.get])
   simpa [Act.put]using this
  | false =>
   rw[hb]at d
   have:=g.get t u d
   simpa [Act.put]using this
theorem zfD{P:Program}{n:Fr}{Q:Exit→Act→World→Prop}{E:Env}{w:World}{B:Nat}{A:Nat→Prop}{L:List Ob}{X k:Type}{g:Operand}{h:Array Tmp}{assign body:Code}{gv:Value}(q:X→List Value)(m:k→Ob)(c3:X→k→Option (k×Option Nat))(c:Nat→Code){s0:k}{zf:k×Option Nat}(d5:n.ro=none)(f0:ev E g=some gv)(d6:(h.toList.all fun c8=>Nat.blt c8 n.sz&&(E.get c8).isNone)=true)(d7:h.toList.Nodup)(hlen:∀x,h.toList.length=(q x).length)(hB:B≤w.heap.size)(c4:∀b,w.heap.size≤b→A b)(f1:Hp B A w (m s0::L))(K:FuncId)(a4:Array Value)(d8:gv=.func (.func K) #[] a4)(d0:∀(b5:Array Value) (w:World),(callFunc K b5).run P w=.ok (.enter K b5) w)(d9:∀(r:k×Option Nat→Ob) (a5:Value) (d:World) (e:Nat→Prop) (T:List Ob),B≤d.heap.size→(∀b,d.heap.size≤b→e b)→Tr Dw B A w e d→Hp B e d (r (s0,none)::T)→a5.cells.toList=[a5]→
   (∀(p:World) (u:Nat→Prop) (U:List Ob) (x:X) (z:k×Option Nat) (b:Bool) (a9:k×Option Nat),B≤p.heap.size→(∀b,p.heap.size≤b→u b)→Tr Dw B e d u p→Hp B u p (r z::U)→zaB c3 x z=some (b,a9)→
    CallV P a5 (q x) p fun v c5=>v=.bool b∧∃W,Tr Dw B u p W c5∧Hp B W c5 (r a9::U))→
   Ret P K (#[a5]++a4) d fun _ w'=>∃i,Tr Dw B e d i w'∧Hp B i w' (r zf::T))(c9:∀(l:Nat) (a:Loop) (d:World) (e:Nat→Prop) (T:List Ob) (x:X) (s:k) (s':k) (j:Option Nat),a.state=.ready→B≤d.heap.size→(∀b,d.heap.size≤b→e b)→Tr Dw B A w e d→Hp B e d (m s::obO l (.loop a)::T)→c3 x s=some (s',j)→
   Rd P ⟨n.sz, [],some l⟩ l assign body (zsW (Dw:=Dw) B e d m (obO l (.loop { a with state := .busy })) T c s' j) (zia h.toList (q x)++E) d)(d1:zf.2=none→∀(D:Nat) (w':World) (i:Nat→Prop),Tr Dw B A w i w'→Hp B i w' (m zf.1::obO D (.deferred (some []))::L)→∀f,Has ⟨n.sz, { target := .collected D,args := #[] }::n.ds,none⟩ f E→Q .normal f w')(d2:∀a0,zf.2=some a0→∀(D:Nat) (w':World) (i:Nat→Prop),Tr Dw B A w i w'→Hp B i w' (m zf.1::obO D (.deferred (some []))::L)→C P ⟨n.sz, { target := .collected D,args := #[] }::n.ds,none⟩ (c a0) Q E w'):
  C P n (.rangeFunc g h assign body) Q E w:=by{
 intro f M;have b7:=M.eval f0;rw[d8]at b7;refine wpIn_rangeFunc fun fn _=>?_;rw[zrk,d5];obtain⟨a,o⟩:∃a:LoopState→Option Code→Loop,a=fun f2 f3 => { state:=f2,pending:=f3,fn,tmps:=f.tmps,params:=h,assign,body,defers:=w.heap.size }:=⟨_,rfl⟩;have e0:=f1.alloc (.deferred (some [])) hB c4;have e1:=zaH (Dw:=Dw) B (w:=w) (.deferred (some [])) c4;have a1:=e1.tr hB;have b8:=Nat.le_trans hB a1.ex.size;have b9:(w.alloc (.deferred (some []))).heap.size=w.heap.size+1:=by simp
 have a2:=e0.alloc (.loop (a .ready none)) b8 a1.new;have e2:=zaH (Dw:=Dw) B (w:=w.alloc (.deferred (some []))) (.loop (a .ready none)) a1.new;have F:=a1.trans (e2.tr b8);rw[b9]at a2;generalize c0:(fun b=>(A b∧b≠w.heap.size)∧b≠(w.alloc (.deferred (some []))).heap.size)=e at F;rw[b9]at c0;rw[c0]at a2;generalize e3:(w.alloc (.deferred (some []))).alloc (.loop (a .ready none))=W1 at F a2
 refine⟨w.heap.size+1, [{ target := .collected w.heap.size,args := #[] }],W1, { target := .fn (.func K) a4,args := #[.func (.yield (w.heap.size+1)) #[] #[]] },W1,K,
  #[.func (.yield (w.heap.size+1)) #[] #[]]++a4,W1,?_,?_,fun _ _=>trivial,?_,zgD _,?_⟩
 rw[← e3,o];exact run_enterLoop_outer _ _ _ _ _;simp only[resolve,b7];simp[go_sem];simp[invoke,go_sem,d0];let r:k×Option Nat→Ob:=fun z=>obE fun _:Unit=>[m z.1,obO (w.heap.size+1) (.loop (a (if z.2.isNone then .ready else .done) (z.2.map c))),obO w.heap.size (.deferred (some []))]
 have e4:Hp B e W1 (r (s0,none)::L):=by
  refine Hp.pack (F:=fun _:Unit=>[m s0,obO (w.heap.size+1) (.loop (a .ready none)),obO w.heap.size (.deferred (some []))]) () ?_
  have b0:=a2.front (i:=1) rfl
  have b1:=b0.front (i:=1) rfl
  exact b1.front (i:=2) rfl
 have e5:=Nat.le_trans hB F.ex.size;refine zkd (Calls.mono (d9 r (.func (.yield (w.heap.size+1)) #[] #[]) W1 e L e5 F.new F e4 rfl ?_) ?_)
 ·intro p u U x z b a9 a3 e6 S H G
  obtain⟨s,f4⟩:=z
  unfold zaB at G
  cases f4 with
  | some a0=>simp at G
  | none =>
   simp only[Option.isNone_none,if_true]at G
   obtain⟨⟨s',j⟩,e7,G⟩:=Option.bind_eq_some_iff.1 G
   simp only[Option.some.injEq,Prod.mk.injEq]at G
   obtain⟨rfl,rfl⟩:=G
   obtain⟨_,H⟩:=Hp.open H
   have H:Hp B u p (m s::obO (w.heap.size+1) (.loop (a .ready none))::(obO w.heap.size (.deferred (some []))::U)):=H
   have b2:=H.obj (i:=1) (b:=w.heap.size+1) rfl
   have f5:=c9 (w.heap.size+1) (a .ready none) p u _ x s s' j (by rw[o]) a3 e6 (F.trans S) H e7
   refine CallV.yield b2 (by rw[o];have:=hlen x;simpa using this.symm) (roundIn_of_wpIn (F:=FR none) trivial ?_)
   have d3:Has ⟨n.sz, [],some (w.heap.size+1)⟩ { tmps:=(((a .ready none).params.zip (q x).toArray).foldl (fun y (t,f)=>y.setIfInBounds t f) (a .ready none).tmps),defers := [] } (zia h.toList (q x)++E):=by
    have:=zmj (n:=⟨n.sz, [],some (w.heap.size+1)⟩) (a := { f with defers := [] }) (E:=E) h.toList (q x) ⟨M.size,rfl,M.get⟩ d6 d7 (hlen x)
    rw[o]
    have R:(h.zip (q x).toArray).foldl (fun (y:Array Value) (x:Tmp×Value)=>y.setIfInBounds x.1 x.2) f.tmps=(h.toList.zip (q x)).foldl (fun (y:Array Value) (x:Tmp×Value)=>y.setIfInBounds x.1 x.2) f.tmps:=by
     rw[← Array.foldl_toList,Array.toList_zip]
    show Has _ { tmps:=(h.zip (q x).toArray).foldl (fun (y:Array Value) (x:Tmp×Value)=>y.setIfInBounds x.1 x.2) f.tmps,defers := [] } _
    rw[R]
    exact this
   have f6:=f5 _ d3
   have f7:(a .ready none).assign=assign:=by rw[o]
   have f8:(a .ready none).body=body:=by rw[o]
   rw[f7,f8]
   refine wpIn_mono f6 ?_
   intro R g3 g2 N
   cases R with
   | normal =>
    obtain⟨f9,b0,b1⟩:=N
    refine⟨f9,b0,wpIn_mono b1 ?_⟩
    intro R g4 Z g0
    obtain⟨I,g1,a7,c1⟩:=g0
    have e8:=c1.obj (i:=1) (b:=w.heap.size+1) rfl
    have e9:=Nat.le_trans a3 a7.ex.size
    have a8:∀b3:Option Code,b3=j.map c→∃v w',(Instr.endRound (w.heap.size+1) b3).run P Z=.ok v w'∧∃c6,Ending.returned v=Ending.returned c6∧c6=.bool j.isNone∧∃W,Tr Dw B u p W w'∧Hp B W w' (r (s',j)::U):=by
     rintro b3 rfl
     have d4:=run_endRound (P:=P) (j.map c) e8
     obtain⟨b4,O⟩:=c1.put (Dw:=Dw) (i:=1) (.loop (a (if j.isNone then .ready else .done) (j.map c))) rfl e9 a7.new
     refine⟨_,_,d4,_,rfl,by cases j <;> rfl,g1,?_,?_⟩
     ·have:Z.putObj (w.heap.size+1) (.loop { { a .ready none with state := .busy }with state:=if (j.map c).isNone then .ready else .done,pending:=j.map c })=Z.putObj (w.heap.size+1) (.loop (a (if j.isNone then .ready else .done) (j.map c))):=by
       rw[o];cases j <;> rfl
      rw[this]
      exact a7.trans O
     ·have:Z.putObj (w.heap.size+1) (.loop { { a .ready none with state := .busy }with state:=if (j.map c).isNone then .ready else .done,pending:=j.map c })=Z.putObj (w.heap.size+1) (.loop (a (if j.isNone then .ready else .done) (j.map c))):=by
       rw[o];cases j <;> rfl
      rw[this]
      exact Hp.pack (F:=fun _:Unit=>[m s',obO (w.heap.size+1) (.loop (a (if j.isNone then .ready else .done) (j.map c))),obO w.heap.size (.deferred (some []))]) () b4
    cases R with
    | normal=>exact a8 _ (by simpa [zeL]using I)
    | ret=>exact a8 _ (by simpa [zeL]using I)
    | exit id=>exact a8 _ (by simpa [zeL]using I)
    | goto t=>simp[zeL]at I
    | panic ch=>simp[zeL]at I
    | outgrown=>simp[zeL]at I
   | exit id=>exact N
   | goto t=>exact N
   | ret=>exact N
   | panic ch=>exact N
   | outgrown=>exact N
 ·rintro R w' ⟨v,rfl,i,c2,J⟩
  obtain⟨_,J⟩:=Hp.open J
  have J:Hp B i w' (m zf.1::obO (w.heap.size+1) (.loop (a (if zf.2.isNone then .ready else .done) (zf.2.map c)))::obO w.heap.size (.deferred (some []))::L):=J
  have b2:=J.obj (i:=1) (b:=w.heap.size+1) rfl
  have S:=F.trans c2
  have a3:=Nat.le_trans hB S.ex.size
  have b6:=run_endLoop (P:=P) b2 (by rw[o];cases zf.2 <;> simp)
  obtain⟨b4,O⟩:=J.put (Dw:=Dw) (i:=1) (.loop { a (if zf.2.isNone then .ready else .done) (zf.2.map c)with state := .exhausted }) rfl a3 c2.new
  have a6:Hp B i _ (m zf.1::obO w.heap.size (.deferred (some []))::L):=b4.drop (i:=1) rfl
  refine⟨zf.2.map c,w'.putObj (w.heap.size+1) (.loop { a (if zf.2.isNone then .ready else .done) (zf.2.map c)with state := .exhausted }),by rw[o]at b6 ⊢;exact b6,?_⟩
  have c7:Has ⟨n.sz, { target := .collected w.heap.size,args := #[] }::n.ds,none⟩ { f with defers := [{ target := .collected w.heap.size,args := #[] }]++f.defers } E:=⟨M.size,by simp[M.defers],M.get⟩
  cases hz:zf.2 with
  | none =>
   rw[hz]at O a6
   show Q .normal _ _
   exact d1 hz _ _ _ (S.trans O) a6 _ c7
  | some a0 =>
   rw[hz]at O a6
   have:=d2 a0 hz _ _ _ (S.trans O) a6 _ c7
   exact this}
end Go.Gw
