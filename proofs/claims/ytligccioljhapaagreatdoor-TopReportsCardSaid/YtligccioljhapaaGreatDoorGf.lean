import Derived.Test.YtligccioljhapaaGreatDoorGs
import Derived.ProofKit
import Derived.OpenShut
import Derived.Carry
import Derived.ChangeArms
import Derived.Deep.Slices
namespace Go.Gw
open Go Go.RowKit Go.Pu Go.ChangeShapes Go.WideShapes
set_option linter.unusedSimpArgs false
set_option linter.unusedVariables false
def Opn(P:Program)(t:TypeId)(α:Type)[GoT α]:Prop :=
 ∀(H:Type) (enc:TypeId×Value→H) (w:World) (fuel:Nat) (cs:List Value) (x:DataW H×List MemPlace),DataW.trod enc P w 0 (fun _=>true) true fuel t cs=some x→∃y:α,GoT.rep (fun _=>True) w cs y∧GoT.wf y
section
variable{P:Program}{t e:TypeId}
theorem zkq(c:P.underlying t=some (.int .i64)):Opn P t Int:=by{
 intro h f i e g j d;obtain⟨a,rfl,_,b⟩:=DataW.trod_int c d;refine⟨a,rfl,?_⟩;have:(-9223372036854775808≤a∧a≤9223372036854775807):=by simpa [Lit.wf,IntKind.min,IntKind.max,IntKind.signed,IntKind.bits]using b
 exact this}
theorem zmD(a:P.underlying t=some .string):Opn P t ByteArray:=by{intro h f i e g j c;obtain⟨d,rfl,_,b⟩:=DataW.trod_string a c;exact⟨d,rfl,b⟩}
theorem At.of_cells{w:World}{b off n:Nat}{cs:List Value}(h:w.cells? 0 (⟨b,off,none⟩:Addr) n=some cs):At w b off cs:=by{
 obtain⟨_,f,g⟩:=World.cells?_some h;intro a i c;have e:a<n:=by rw[← f];exact (List.getElem?_eq_some_iff.1 c).1
 have d:(⟨b,off,none⟩:Addr).add a=⟨b,off+a,none⟩:=by unfold Addr.add;split <;> simp_all
 rw[← d,g a e,c]}
theorem zem{α:Type}[GoT α](W:P.underlying t=some (.slice e))(X:Opn P e α)(p:P.cellsOf e=GoT.cells α)(a7:GoT.cells α≠0):Opn P t (List α):=by{
 intro a2 G f a6 a8 s u;rcases Go.Deep.open_slice W u with ⟨rfl,_⟩|⟨g,len,H,v,a3,b2,a9,rfl,_,Z,A,I,_,m⟩;exact⟨[],⟨_,rfl,Sl.nil⟩,by simp,by simp⟩;have J:v=H:=by simpa using I
 subst J;by_cases D:len=0;subst D;exact⟨[],⟨_,rfl,.inl ⟨some g,v,rfl,rfl,A,fun u=>by cases u⟩⟩,Nat.zero_le _,fun s m=>by cases m⟩;obtain⟨K,E,_⟩:=m 0 (by omega);obtain⟨_,L,M⟩:=World.cells?_some E;have w:=M 0 (by rw[p];omega);have N:K[0]?≠none:=by rw[Ne,List.getElem?_eq_none_iff];rw[L,p];omega
 obtain⟨l,a0⟩:=Option.ne_none_iff_exists'.1 N;rw[a0]at w;have i:f.cell? g=some l:=by simpa [Addr.add]using w
 have y:=World.block_lt_of_cell? f g i
 have x:g.spot=none:=by
  unfold World.cell? at i
  split at i
  cases hs:g.spot with
  | none=>rfl
  | some _=>simp[hs]at i
  cases i
 obtain⟨h,off,b0⟩:=g;simp only at x y;subst x;have F:∀a,(⟨h,off,none⟩:Addr).add a=⟨h,off+a,none⟩:=fun a=>zdZ h off a
 have O:∀k,k≤len→∃(c:List α) (b:List Value),c.length=k∧repL (fun _=>True) f b c∧At f h off b∧∀s∈c,GoT.wf s:=by
  intro k
  induction k with
  | zero=>intro _;exact⟨[], [],rfl,rfl,fun a l d=>by simp at d,by simp⟩
  | succ k ih =>
   intro b1
   obtain⟨c,b,n,o,q,r⟩:=ih (by omega)
   obtain⟨B,Q,R⟩:=m k (by omega)
   obtain⟨a4,a1,S⟩:=X a2 G f a3 B _ R
   refine⟨c++[a4],b++B,by simp[n],o.append (repL.single a1),?_,?_⟩
   intro a l d
   rcases Nat.lt_or_ge a b.length with T|z
   rw[List.getElem?_append_left T]at d
   exact q a l d
   rw[List.getElem?_append_right z]at d
   have U:=At.of_cells (w:=f) (b:=h) (off:=off+k*P.cellsOf e) (by rw[← F];exact Q)
   have:=U (a-b.length) l d
   rw[o.len,n, ← p]at z this
   rw[show off+a=off+k*P.cellsOf e+(a-k*P.cellsOf e) by omega]
   exact this
   intro a5 j
   rcases List.mem_append.1 j with j|j
   exact r a5 j
   rw[List.mem_singleton.1 j];exact S
 obtain⟨c,b,n,o,q,r⟩:=O len (Nat.le_refl _);subst n;exact⟨c,⟨_,rfl,.inr ⟨h,off,v,b,rfl,trivial,y,Z,A,o,q⟩⟩,by omega,r⟩}
def OpnL(P:Program)(fs:List Field)(off:Nat)(β:Type)[GoT β]:Prop :=
 ∀(H:Type) (enc:TypeId×Value→H) (w:World) (fuel:Nat) (cs:List Value),cs.length=off+GoT.cells β→
  (∀f∈fs,∃x,DataW.trod enc P w 0 (fun _=>true) true fuel f.type ((cs.drop f.offset).take (P.cellsOf f.type))=some x)→∃y:β,GoT.rep (fun _=>True) w (cs.drop off) y∧GoT.wf y
theorem zcC{f:Field}{off:Nat}{β:Type}[GoT β](d:f.offset=off)(l:P.cellsOf f.type=GoT.cells β)(e:Opn P f.type β):OpnL P [f] off β:=by{intro g c h b m n i;obtain⟨j,a⟩:=i f (by simp);subst d;rw[List.take_of_length_le (by rw[List.length_drop];omega)]at a;exact e g c h b _ j a}
theorem jj{f:Field}{fs:List Field}{off:Nat}{α β:Type}[GoT α][GoT β](j:f.offset=off)(l:P.cellsOf f.type=GoT.cells α)(m:Opn P f.type α)(n:OpnL P fs (off+GoT.cells α) β):OpnL P (f::fs) off (α×β):=by{
 intro d c e b a o g;obtain⟨t,p⟩:=g f (by simp);obtain⟨u,q,h⟩:=m d c e b _ t p;have x:a.length=off+(GoT.cells α+GoT.cells β):=o;obtain⟨w,s,i⟩:=n d c e b a (by omega) (fun v r=>g v (by simp[r]));subst j;refine⟨(u,w),⟨_,_,?_,q,s⟩,h,i⟩;rw[l];conv=>lhs;rw[← List.take_append_drop (GoT.cells α) (a.drop f.offset)]
 rw[List.drop_drop]}
theorem zbD{fs:Array Field}{α β:Type}[GoT β](g:α→β)(b:β→α)(e:∀a,g (b a)=a)(p:P.underlying t=some (.struct fs))(q:P.cellsOf t=GoT.cells β)(x:OpnL P fs.toList 0 β):@Opn P t α (GoT.of g):=by{
 intro y j i B f D r;obtain⟨h,z,rfl,_,s,l,u⟩:=DataW.trod_struct p r
 obtain⟨a,v,n⟩:=x y j i z f (by rw[s,q,Nat.zero_add]) (fun A m=>by
  obtain⟨d,c⟩:=List.mem_iff_getElem?.1 m
  rw[Array.getElem?_toList]at c
  have w:=u d A c
  have o:d<h.length:=by rw[l];exact (Array.getElem?_eq_some_iff.1 c).1
  exact⟨h[d],by rw[w];simp[o]⟩)
 refine⟨b a,?_,?_⟩;show GoT.rep (fun _=>True) i f (g (b a));rw[e];exact v;show GoT.wf (g (b a));rw[e];exact n}
theorem zgA{w:World}{r:Reach}{base:Nat}{v:Value}{a:TypeDesc}(b:P.underlying t=some a)(c:match a with|.int _|.bool|.string|.slice _=>True|_=>False)(d:Value.okWide P w r base t v):v.cells=#[v]:=by{
 cases v <;> try rfl
 all_goals (cases a <;> first | exact c.elim | (simp[Value.okWide,Cell.okWide,Cell.ok,b]at d))}
theorem zlz{w:World}{r:Reach}{base:Nat}{v:Value}{fs:Array Field}(c:P.underlying t=some (.struct fs))(b:Value.okWide P w r base t v):∃a,v=.agg a:=by{simp only[Value.okWide,c]at b;obtain⟨a,rfl,_⟩:=b;exact⟨a,rfl⟩}
theorem zeD{w:World}{r:Reach}{base:Nat}{v:Value}{d:Type}{enc:TypeId×Value→d}{h:DataW d}{p:List MemPlace}(b:P.underlying t=some (.int .i64))(i:Value.okWide P w r base t v)(e:DataW.Trod enc P w 0 (fun _=>true) true t v h p):∃a:Int,v=.int .i64 a∧GoT.wf a:=by{obtain⟨j,c⟩:=e;rw[zgA b trivial i]at c;obtain⟨a,f,g⟩:=zkq b _ _ _ _ _ _ c;exact⟨a,List.singleton_inj.1 f,g⟩}
theorem zlD{α:Type}[GoT α]{w:World}{r:Reach}{base:Nat}{v:Value}{b:Type}{enc:TypeId×Value→b}{l:DataW b}{p:List MemPlace}(g:Opn P t (List α))(h:P.underlying t=some (.slice e))(m:Value.okWide P w r base t v)(i:DataW.Trod enc P w 0 (fun _=>true) true t v l p):∃c:List α,Sl (fun _=>True) w v c∧GoT.wf c:=by{
 obtain⟨q,a⟩:=i;rw[zgA h trivial m]at a;obtain⟨n,⟨o,d,f⟩,j⟩:=g _ _ _ _ _ _ a;have:v=o:=by simpa using d
 subst this;exact⟨n,f,j⟩}
theorem zhu{α:Type}[GoT α]{w:World}{r:Reach}{base:Nat}{v:Value}{a:Type}{enc:TypeId×Value→a}{h:DataW a}{p:List MemPlace}{fs:Array Field}(b:Opn P t α)(c:P.underlying t=some (.struct fs))(i:Value.okWide P w r base t v)(d:DataW.Trod enc P w 0 (fun _=>true) true t v h p):∃(x:α) (cs:List Value),v=.agg cs.toArray∧GoT.rep (fun _=>True) w cs x∧GoT.wf x:=by{obtain⟨cs,rfl⟩:=zlz c i;obtain⟨j,e⟩:=d;obtain⟨x,f,g⟩:=b _ _ _ _ _ _ e;exact⟨x,cs.toList,by simp,f,g⟩}
end
theorem ziv{h:Type}{enc:TypeId×Value→h}{P:Program}(i:laidOutB P=true){W g:World}(j:Below W.heap.size W g):∀(ts:List TypeId) (vs:List Value) (ds:List (DataW h)) (a:List MemPlace),
  (ts.all fun t=>P.readableRec t&&decide (t<P.types.size))=true→(∀b∈a,b.block<W.heap.size)→DataW.TrodAll enc P W 0 (fun _=>true) true ts vs ds a→DataW.TrodAll enc P g 0 (fun n=>decide (n<W.heap.size)) true ts vs ds a:=by{
 intro ts;induction ts with
 | nil =>
  intro vs ds a _ _ e
  obtain⟨rfl,rfl,rfl⟩:=trodAll_nil e
  exact trodAll_mk0
 | cons t ts ih =>
  intro vs ds a c f e
  obtain⟨q,o,r,p,s,u,rfl,rfl,rfl,l,m⟩:=trodAll_cons e
  simp only[List.all_cons,Bool.and_eq_true]at c
  exact trodAll_cons_mk (Below.trod i c.1.1 (of_decide_eq_true c.1.2) l j (fun b d=>f b (List.mem_append_left _ d))) (ih _ _ _ c.2 (fun b d=>f b (List.mem_append_right _ d)) m)}
theorem zmk{a:Type}{enc:TypeId×Value→a}{P:Program}{f:Func}{s:ChangeSpec}{W d:World}{b:Array Value}{ds:List (DataW a)}{p:List MemPlace}{e:TypeId}(g:s.vars=[])(q:(s.fn a (ds++[])).results=[.lit (.bool true)])(r:(s.fn a (ds++[])).args=ds)(u:(s.fn a (ds++[])).vars=[])(m:f.resultTypes=#[e])(n:P.underlying e=some .bool)(v:laidOutB P=true)(o:(f.params.toList.all fun t=>P.readableRec t&&decide (t<P.types.size))=true)(h:DataW.Whole enc P f.params.toList s.vars false W b.toList ds [] p)(i:Below W.heap.size W d):s.post enc P f false true false false W b (.bool true) d:=by{
 have c:=h;obtain⟨j,w,x,l,rfl,D,E⟩:=h;rw[g]at l;have y:w=[]:=by simpa [DataW.TrodVars]using l
 subst y;refine⟨ds, [],j++[], [],j, [],c,?_,?_,?_,i.frame _,fun A=>by cases A⟩;rw[q,m];exact trodAll_cons_mk (shut_bool n true) trodAll_mk0;rw[r];refine ziv v i _ _ _ _ o (fun B z=>?_) x;simpa using c.lt B (by simpa using z);rw[g,u];rfl}
end Go.Gw
