import Derived.Test.YtdpmeckhhcjoiaaGreatDoorGs
import Derived.ProofKit
import Derived.OpenShut
import Derived.Carry
import Derived.ChangeArms
import Derived.Deep.Slices
namespace Go.Gw
open Go Go.RowKit Go.Pu Go.ChangeShapes Go.WideShapes
set_option linter.unusedSimpArgs false
set_option linter.unusedVariables false
def Opn(P:Program)(t:TypeId)(α:Type)[GoT α]:Prop :=
 ∀(H:Type) (enc:TypeId×Value→H) (w:World) (fuel:Nat) (cs:List Value) (x:DataW H×List MemPlace),DataW.trod enc P w 0 (fun _=>true) true fuel t cs=some x→∃y:α,GoT.rep (fun _=>True) w cs y∧GoT.wf y
section
variable{P:Program}{t e:TypeId}
theorem zrM(c:P.underlying t=some (.int .i64)):Opn P t Int:=by{
 intro h f i e g j d;obtain⟨a,rfl,_,b⟩:=DataW.trod_int c d;refine⟨a,rfl,?_⟩;have:(-9223372036854775808≤a∧a≤9223372036854775807):=by simpa [Lit.wf,IntKind.min,IntKind.max,IntKind.signed,IntKind.bits]using b
 exact this}
theorem zrF(a:P.underlying t=some .bool):Opn P t Bool:=by{intro g e h d f i b;obtain⟨c,rfl,_⟩:=DataW.trod_bool a b;exact⟨c,rfl,trivial⟩}
theorem zrV(a:P.underlying t=some .string):Opn P t ByteArray:=by{intro h f i e g j c;obtain⟨d,rfl,_,b⟩:=DataW.trod_string a c;exact⟨d,rfl,b⟩}
theorem At.of_cells{w:World}{b off n:Nat}{cs:List Value}(h:w.cells? 0 (⟨b,off,none⟩:Addr) n=some cs):At w b off cs:=by{
 obtain⟨_,f,g⟩:=World.cells?_some h;intro a i c;have e:a<n:=by rw[← f];exact (List.getElem?_eq_some_iff.1 c).1
 have d:(⟨b,off,none⟩:Addr).add a=⟨b,off+a,none⟩:=by unfold Addr.add;split <;> simp_all
 rw[← d,g a e,c]}
theorem zcF{α:Type}[GoT α](U:P.underlying t=some (.slice e))(W:Opn P e α)(p:P.cellsOf e=GoT.cells α)(a6:GoT.cells α≠0):Opn P t (List α):=by{
 intro a1 F g a5 a7 s u;rcases Go.Deep.open_slice U u with ⟨rfl,_⟩|⟨h,len,G,v,a2,b1,a8,rfl,_,X,A,H,_,m⟩;exact⟨[],⟨_,rfl,Sl.nil⟩,by simp,by simp⟩;have I:v=G:=by simpa using H
 subst I;by_cases hlen:len=0;subst hlen;exact⟨[],⟨_,rfl,.inl ⟨some h,v,rfl,rfl,A,fun u=>by cases u⟩⟩,Nat.zero_le _,fun s m=>by cases m⟩;obtain⟨J,D,_⟩:=m 0 (by omega);obtain⟨_,K,L⟩:=World.cells?_some D;have w:=L 0 (by rw[p];omega);have M:J[0]?≠none:=by rw[Ne,List.getElem?_eq_none_iff];rw[K,p];omega
 obtain⟨l,Z⟩:=Option.ne_none_iff_exists'.1 M;rw[Z]at w;have j:g.cell? h=some l:=by simpa [Addr.add]using w
 have y:=World.block_lt_of_cell? g h j
 have x:h.spot=none:=by
  unfold World.cell? at j
  split at j
  cases hs:h.spot with
  | none=>rfl
  | some _=>simp[hs]at j
  cases j
 obtain⟨i,off,a9⟩:=h;simp only at x y;subst x;have E:∀a,(⟨i,off,none⟩:Addr).add a=⟨i,off+a,none⟩:=fun a=>ziG i off a
 have N:∀b,b≤len→∃(d:List α) (c:List Value),d.length=b∧repL (fun _=>True) g c d∧At g i off c∧∀s∈d,GoT.wf s:=by
  intro b
  induction b with
  | zero=>intro _;exact⟨[], [],rfl,rfl,fun a l f=>by simp at f,by simp⟩
  | succ b ih =>
   intro b0
   obtain⟨d,c,n,o,q,r⟩:=ih (by omega)
   obtain⟨B,O,Q⟩:=m b (by omega)
   obtain⟨a3,a0,R⟩:=W a1 F g a2 B _ Q
   refine⟨d++[a3],c++B,by simp[n],o.append (repL.single a0),?_,?_⟩
   intro a l f
   rcases Nat.lt_or_ge a c.length with S|z
   rw[List.getElem?_append_left S]at f
   exact q a l f
   rw[List.getElem?_append_right z]at f
   have T:=At.of_cells (w:=g) (b:=i) (off:=off+b*P.cellsOf e) (by rw[← E];exact O)
   have:=T (a-c.length) l f
   rw[o.len,n, ← p]at z this
   rw[show off+a=off+b*P.cellsOf e+(a-b*P.cellsOf e) by omega]
   exact this
   intro a4 k
   rcases List.mem_append.1 k with k|k
   exact r a4 k
   rw[List.mem_singleton.1 k];exact R
 obtain⟨d,c,n,o,q,r⟩:=N len (Nat.le_refl _);subst n;exact⟨d,⟨_,rfl,.inr ⟨i,off,v,c,rfl,trivial,y,X,A,o,q⟩⟩,by omega,r⟩}
def OpnL(P:Program)(fs:List Field)(off:Nat)(β:Type)[GoT β]:Prop :=
 ∀(H:Type) (enc:TypeId×Value→H) (w:World) (fuel:Nat) (cs:List Value),cs.length=off+GoT.cells β→
  (∀f∈fs,∃x,DataW.trod enc P w 0 (fun _=>true) true fuel f.type ((cs.drop f.offset).take (P.cellsOf f.type))=some x)→∃y:β,GoT.rep (fun _=>True) w (cs.drop off) y∧GoT.wf y
theorem zdr{f:Field}{off:Nat}{β:Type}[GoT β](d:f.offset=off)(k:P.cellsOf f.type=GoT.cells β)(e:Opn P f.type β):OpnL P [f] off β:=by{intro g c h b l m i;obtain⟨j,a⟩:=i f (by simp);subst d;rw[List.take_of_length_le (by rw[List.length_drop];omega)]at a;exact e g c h b _ j a}
theorem jA{f:Field}{d:List Field}{off:Nat}{α β:Type}[GoT α][GoT β](k:f.offset=off)(l:P.cellsOf f.type=GoT.cells α)(m:Opn P f.type α)(n:OpnL P d (off+GoT.cells α) β):OpnL P (f::d) off (α×β):=by{
 intro e c g b a o h;obtain⟨t,p⟩:=h f (by simp);obtain⟨u,q,i⟩:=m e c g b _ t p;have x:a.length=off+(GoT.cells α+GoT.cells β):=o;obtain⟨w,s,j⟩:=n e c g b a (by omega) (fun v r=>h v (by simp[r]));subst k;refine⟨(u,w),⟨_,_,?_,q,s⟩,i,j⟩;rw[l];conv=>lhs;rw[← List.take_append_drop (GoT.cells α) (a.drop f.offset)]
 rw[List.drop_drop]}
theorem zbQ{f:Array Field}{α β:Type}[GoT β](g:α→β)(b:β→α)(e:∀a,g (b a)=a)(p:P.underlying t=some (.struct f))(q:P.cellsOf t=GoT.cells β)(x:OpnL P f.toList 0 β):@Opn P t α (GoT.of g):=by{
 intro y k j B h D r;obtain⟨i,z,rfl,_,s,l,u⟩:=DataW.trod_struct p r
 obtain⟨a,v,n⟩:=x y k j z h (by rw[s,q,Nat.zero_add]) (fun A m=>by
  obtain⟨d,c⟩:=List.mem_iff_getElem?.1 m
  rw[Array.getElem?_toList]at c
  have w:=u d A c
  have o:d<i.length:=by rw[l];exact (Array.getElem?_eq_some_iff.1 c).1
  exact⟨i[d],by rw[w];simp[o]⟩)
 refine⟨b a,?_,?_⟩;show GoT.rep (fun _=>True) j h (g (b a));rw[e];exact v;show GoT.wf (g (b a));rw[e];exact n}
theorem zoz{w:World}{r:Reach}{base:Nat}{v:Value}{d:TypeDesc}(a:P.underlying t=some d)(b:match d with|.int _|.bool|.string|.slice _=>True|_=>False)(c:Value.okWide P w r base t v):v.cells=#[v]:=by{
 cases v <;> try rfl
 all_goals (cases d <;> first | exact b.elim | (simp[Value.okWide,Cell.okWide,Cell.ok,a]at c))}
theorem zfE{α:Type}[GoT α]{w:World}{r:Reach}{base:Nat}{v:Value}{b:Type}{enc:TypeId×Value→b}{d:DataW b}{l:List MemPlace}(h:Opn P t (List α))(i:P.underlying t=some (.slice e))(m:Value.okWide P w r base t v)(j:DataW.Trod enc P w 0 (fun _=>true) true t v d l):∃c:List α,Sl (fun _=>True) w v c∧GoT.wf c:=by{
 obtain⟨p,a⟩:=j;rw[zoz i trivial m]at a;obtain⟨n,⟨o,f,g⟩,k⟩:=h _ _ _ _ _ _ a;have:v=o:=by simpa using f
 subst this;exact⟨n,g,k⟩}
end
theorem zmD{i:Type}{enc:TypeId×Value→i}{P:Program}(j:laidOutB P=true){W h:World}(k:Below W.heap.size W h):∀(a:List TypeId) (vs:List Value) (ds:List (DataW i)) (b:List MemPlace),
  (a.all fun t=>P.readableRec t&&decide (t<P.types.size))=true→(∀c∈b,c.block<W.heap.size)→DataW.TrodAll enc P W 0 (fun _=>true) true a vs ds b→DataW.TrodAll enc P h 0 (fun n=>decide (n<W.heap.size)) true a vs ds b:=by{
 intro a;induction a with
 | nil =>
  intro vs ds b _ _ f
  obtain⟨rfl,rfl,rfl⟩:=trodAll_nil f
  exact trodAll_mk0
 | cons t a ih =>
  intro vs ds b d g f
  obtain⟨q,o,r,p,s,u,rfl,rfl,rfl,l,m⟩:=trodAll_cons f
  simp only[List.all_cons,Bool.and_eq_true]at d
  exact trodAll_cons_mk (Below.trod j d.1.1 (of_decide_eq_true d.1.2) l k (fun c e=>g c (List.mem_append_left _ e))) (ih _ _ _ d.2 (fun c e=>g c (List.mem_append_right _ e)) m)}
theorem zrg{a:Type}{enc:TypeId×Value→a}{P:Program}{f:Func}{s:ChangeSpec}{W d:World}{b:Array Value}{ds:List (DataW a)}{y:List MemPlace}{e:TypeId}(g:s.vars=[])(o:(s.fn a (ds++[])).results=[.lit (.bool true)])(p:(s.fn a (ds++[])).args=ds)(q:(s.fn a (ds++[])).vars=[])(l:f.resultTypes=#[e])(m:P.underlying e=some .bool)(r:laidOutB P=true)(n:(f.params.toList.all fun t=>P.readableRec t&&decide (t<P.types.size))=true)(h:DataW.Whole enc P f.params.toList s.vars false W b.toList ds [] y)(i:Below W.heap.size W d):s.post enc P f false true false false W b (.bool true) d:=by{
 have c:=h;obtain⟨j,u,v,k,rfl,B,D⟩:=h;rw[g]at k;have w:u=[]:=by simpa [DataW.TrodVars]using k
 subst w;refine⟨ds, [],j++[], [],j, [],c,?_,?_,?_,i.frame _,fun z=>by cases z⟩;rw[o,l];exact trodAll_cons_mk (shut_bool m true) trodAll_mk0;rw[p];refine zmD r i _ _ _ _ n (fun A x=>?_) v;simpa using c.lt A (by simpa using x);rw[g,q];rfl}
end Go.Gw
