import Derived.WalkKit
import Derived.Deep.Quiet
import Derived.Deep.LoopGhost
import Derived.StillTail
import Derived.OrdersIn
import Derived.RangeFuncRecord
import Derived.OwnWalkIn
import Derived.Test.YtligccioljhapaaGreatDoorPu
namespace Go.Gw
open Go Go.RowKit Go.Pu
structure Bel(Dw:Prop)(B:Nat)(w w':World):Prop where
 os:w'.os=w.os
 tape:w'.tape=w.tape
 output:w'.output=w.output
 size:w.heap.size≤w'.heap.size
 dr:Dw→w.drawn≤w'.drawn
 block:∀k,k<B→w'.heap[k]?=w.heap[k]?
abbrev Kp(Dw:Prop)(w w':World):Prop:=Bel Dw w.heap.size w w'
theorem Bel.below{Dw:Prop}{B:Nat}{w w':World}(a:Bel Dw B w w'):Below B w w':=⟨a.os,a.tape,a.output,a.size,a.block⟩
theorem Bel.of{B:Nat}{w w':World}(a:Below B w w'):Bel False B w w':=⟨a.os,a.tape,a.output,a.size,fun a=>a.elim,a.block⟩
theorem Bel.refl{Dw:Prop}(B:Nat)(w:World):Bel Dw B w w:=⟨rfl,rfl,rfl,Nat.le_refl _,fun _=>Nat.le_refl _,fun _ _=>rfl⟩
theorem Bel.trans{Dw:Prop}{B:Nat}{a b c:World}(e:Bel Dw B a b)(k:Bel Dw B b c):Bel Dw B a c :=
 ⟨k.os.trans e.os,k.tape.trans e.tape,k.output.trans e.output,Nat.le_trans e.size k.size,fun d=>Nat.le_trans (e.dr d) (k.dr d),fun g f=>(k.block g f).trans (e.block g f)⟩
theorem Bel.mono{Dw:Prop}{B b:Nat}{w w':World}(a:Bel Dw B w w')(hB:b≤B):Bel Dw b w w':=⟨a.os,a.tape,a.output,a.size,a.dr,fun k c=>a.block k (Nat.lt_of_lt_of_le c hB)⟩
theorem Bel.drew{Dw:Prop}(w:World):Bel Dw w.heap.size w w.drew:=⟨rfl,rfl,rfl,Nat.le_refl _,fun _=>Nat.le_succ _,fun _ _=>rfl⟩
set_option linter.unusedSimpArgs false
set_option linter.unusedVariables false
structure Fr where
 sz:Nat
 ds:List Deferred := []
 ro:Option Nat:=none
def FR(ro:Option Nat):Fence := { Fence.wide with round:=ro }
theorem zeP(ro:Option Nat){p:Prop}:(FR ro).depth.isSome=true→p:=fun a=>by cases a
theorem zhM{ro:Option Nat}{n:Nat}{P:Program}{f:FuncId}{a:Array Value}{w:World}{R:Ending→World→Prop}(b:Calls P f a w R):CallsIn (FR ro) n P f a w R :=
 (callsIn_wide (n:=n)).2 b
theorem wpFR{c:Code}{P:Program}{Q:Exit→Act→World→Prop}{a:Act}{w:World}:c.wpIn (FR none) 0 P Q a w↔c.wp P Q a w:=wpIn_wide
theorem zhn{r:Operand→Value}{o:Oper}{P:Program}{w w':World}{c:Call}{b:Next}(e:o.op=.defer c)(a:(execOp r o).run P w=.ok b w'):∃d,b=.defer d:=by{
 simp only[execOp,e,Sem.run_bind]at a;cases hr:(resolve r c o.type).run P w with
 | ok d w1=>rw[hr]at a;simp[Result.andThen]at a;exact⟨d,a.1.symm⟩
 | halt x w1=>rw[hr]at a;simp[Result.andThen]at a}
theorem je{ro:Option Nat}{r:Operand→Value}{o:Oper}{P:Program}{w w':World}{a:Next}(b:(execOp r o).run P w=.ok a w')(e:∀d,a≠.defer d):(o.semAt ro r).run P w=.ok a w':=by{rw[Oper.semAt_eq];exact b;intro c f;obtain⟨d,rfl⟩:=zhn f b;exact e d rfl}
abbrev Env:=List (Nat×Value)
def Env.get:Env→Nat→Option Value
 | [],_=>none
 | (k,v)::r,t=>bif Nat.beq k t then some v else Env.get r t
structure Has(n:Fr)(a:Act)(E:Env):Prop where
 size:a.tmps.size=n.sz
 defers:a.defers=n.ds
 get:∀t v,E.get t=some v→a.tmps[t]?=some v
def ev(E:Env):Operand→Option Value
 | .tmp t=>E.get t
 | .const v=>some v
 | .global g=>some (.pointer (some ⟨g,0,none⟩))
 | .func f=>some (.func (.func f) #[] #[])
def evs(E:Env):List Operand→Option (List Value)
 | []=>some []
 | x::r=>match ev E x,evs E r with
  | some v,some vs=>some (v::vs)
  | _,_=>none
def subE:Env→Env→Prop
 | [],_=>True
 | (t,v)::r,E=>E.get t=some v∧subE r E
theorem zml{E' E:Env}(b:subE E' E){t:Nat}{v:Value}(a:E'.get t=some v):E.get t=some v:=by{
 induction E' with
 | nil=>simp[Env.get]at a
 | cons p r ih =>
  obtain⟨k,c⟩:=p
  rw[Env.get]at a
  cases hb:Nat.beq k t with
  | true =>
   rw[hb]at a
   have:=Nat.eq_of_beq_eq_true hb
   subst this
   cases a
   exact b.1
  | false =>
   rw[hb]at a
   exact ih b.2 a}
section
variable{n:Fr}{a:Act}{E E':Env}{x:Operand}{v:Value}{d:Nat}
theorem Has.sub(b:Has n a E)(c:subE E' E):Has n a E':=⟨b.size,b.defers,fun _ _ d=>b.get _ _ (zml c d)⟩
theorem Has.eval(c:Has n a E)(b:ev E x=some v):a.eval x=v:=by{
 cases x with
 | tmp t =>
  have:=c.get t v b
  simp[Act.eval,Array.getD_eq_getD_getElem?,this]
 | const u=>exact Option.some.inj b
 | global g=>exact Option.some.inj b
 | func d=>exact Option.some.inj b}
theorem Has.evals(c:Has n a E){xs:List Operand}{vs:List Value}(b:evs E xs=some vs):xs.map a.eval=vs:=by{
 induction xs generalizing vs with
 | nil=>cases b;rfl
 | cons y r ih =>
  rw[evs]at b
  split at b
  rename_i v vs' h1 h2
  cases b
  rw[List.map_cons,c.eval h1,ih h2]
  cases b}
theorem Has.put(c:Has n a E)(g:Nat.blt d n.sz=true):Has n (a.put (some d) v) ((d,v)::E):=by{
 have e:d<n.sz:=Nat.le_of_ble_eq_true g;refine⟨by simp[Act.put,c.size],c.defers,fun t h b=>?_⟩;rw[Env.get]at b;cases hb:Nat.beq d t with
 | true =>
  rw[hb]at b
  have:=Nat.eq_of_beq_eq_true hb
  subst this
  cases b
  simp[Act.put,c.size,e]
 | false =>
  rw[hb]at b
  have f:d≠t:=Nat.ne_of_beq_eq_false hb
  simp only[Act.put]
  rw[Array.getElem?_setIfInBounds_ne f]
  exact c.get t h b}
theorem Has.skip(c:Has n a E)(f:E.get d=none):Has n (a.put (some d) v) E:=by{
 refine⟨by simp[Act.put,c.size],c.defers,fun t g b=>?_⟩;have e:d≠t:=fun h=>by subst h;rw[f]at b;cases b
 simp only[Act.put];rw[Array.getElem?_setIfInBounds_ne e];exact c.get t g b}
end
def zgj:Nat→List Value→Env
 | _, []=>[]
 | i,v::r=>(i,v)::zgj (i+1) r
theorem zlm(vs:List Value)(i t:Nat)(v:Value)(a:(zgj i vs).get t=some v):i≤t∧vs[t-i]?=some v:=by{
 induction vs generalizing i with
 | nil=>simp[zgj,Env.get]at a
 | cons u r ih =>
  rw[zgj,Env.get]at a
  cases hb:Nat.beq i t with
  | true =>
   rw[hb]at a
   have:=Nat.eq_of_beq_eq_true hb
   subst this
   cases a
   simp
  | false =>
   rw[hb]at a
   have c:i≠t:=Nat.ne_of_beq_eq_false hb
   obtain⟨d,b⟩:=ih (i+1) a
   refine⟨by omega,?_⟩
   rw[show t-i=(t-(i+1))+1 by omega,List.getElem?_cons_succ]
   exact b}
def C(P:Program)(n:Fr)(c:Code)(Q:Exit→Act→World→Prop)(E:Env)(w:World):Prop:=∀a,Has n a E→c.wpIn (FR n.ro) 0 P Q a w
def V(P:Program)(n:Fr)(ops:Array Oper)(Q:Exit→Act→World→Prop)(l:List Oper)(E:Env)(w:World):Prop:=∀a,Has n a E→wpListIn (FR n.ro) 0 P ops Q l a w
def VQ(P:Program)(n:Fr)(ops:Array Oper)(W:World→Prop)(Q:Act→Prop)(l:List Oper)(E:Env):Prop:=∀a,Has n a E→wpQuiet P ops W Q l a
def Ret(P:Program)(f:FuncId)(args:Array Value)(w:World)(R:Value→World→Prop):Prop :=
 Calls P f args w fun e w'=>∃v,e=.returned v∧R v w'
theorem Ret.mono{P:Program}{f:FuncId}{a:Array Value}{w:World}{R b:Value→World→Prop}(g:Ret P f a w R)(c:∀v w',R v w'→b v w'):Ret P f a w b :=
 Calls.mono g fun _ _ ⟨v,d,e⟩=>⟨v,d,c _ _ e⟩
def zeL(P:Program)(fn:Func)(R:Value→World→Prop):Exit→Act→World→Prop:=bodyPost P fn fun e w'=>∃v,e=.returned v∧R v w'
theorem enter{P:Program}{f:FuncId}{fn:Func}{c:Code}{a:Array Value}{w:World}{R:Value→World→Prop}{n:Nat}(h:P.funcs[f]?=some fn)(i:fn.body=some c)(j:fn.ntmps=n)(e:Nat.ble a.size n=true)(m:C P ⟨n, [],none⟩ c (zeL P fn R) (zgj 0 a.toList) w):Ret P f a w R:=by{
 refine calls_of_wp h i (wpFR.1 (m _ ⟨?_,rfl,fun t v l=>?_⟩));simp only[Array.size_append,Array.size_replicate,j];have:=Nat.le_of_ble_eq_true e;omega;obtain⟨_,b⟩:=zlm _ _ _ _ l;simp only[Nat.sub_zero,Array.getElem?_toList]at b
 have g:t<a.size:=by
  rcases Nat.lt_or_ge t a.size with d|d
  exact d
  rw[Array.getElem?_eq_none d]at b;cases b
 simp only[];rw[Array.getElem?_append_left g];exact b}
section code
variable{P:Program}{n:Fr}{Q Q':Exit→Act→World→Prop}{E E':Env}{w:World}{c x y:Code}
theorem C.sub(e:C P n c Q E' w)(b:subE E' E):C P n c Q E w:=fun a d=>e a (d.sub b)
theorem zm(c:C P n x (Exit.then (fun a w=>y.wpIn (FR n.ro) 0 P Q a w) Q) E w):C P n (.seq x y) Q E w:=fun a b=>wpIn_seq (c a b)
theorem qD(c:∀a,Has n a E→Q .normal a w):C P n .skip Q E w:=fun a b=>wpIn_skip (c a b)
theorem zu{id:Nat}{l:List Oper}(c:V P n l.toArray Q l E w):C P n (.region id l.toArray false) Q E w:=fun a b=>wpIn_region_lit (c a b)
theorem zC{id:Nat}(d:C P n c (Exit.inBlock id Q) E w):C P n (.block id c) Q E w:=fun a b=>wpIn_block (d a b)
theorem ZN{id:Nat}(c:∀a,Has n a E→Q (.exit id) a w):C P n (.exit id) Q E w:=fun a b=>wpIn_exit (c a b)
theorem Jc(c:∀a,Has n a E→Q .ret a w):C P n .ret Q E w:=fun a b=>wpIn_ret (c a b)
theorem zlp{o:Operand}{b:Bool}(e:ev E o=some (.bool b))(f:b=true→C P n x Q E w)(g:b=false→C P n y Q E w):C P n (.cond o x y) Q E w :=
 fun a c=>wpIn_cond_split (c.eval e) (fun d=>f d a c) (fun d=>g d a c)
theorem zo{ops:Array Oper}(c:∀a,Has n a E→Q .normal a w):V P n ops Q [] E w:=fun a b=>wpListIn_nil (c a b)
theorem zhg{F:Fence}{k:Nat}{a:Act}(e:Nat→Act→World→Prop)(i:Nat)(o:e i a w)(m:∀b a w,e b a w→c.wpIn F k P (Exit.then (fun g w'=>∃f,f<b∧e f g w') Q) a w):(Code.loop c).wpIn F k P Q a w:=by{
 refine wpIn_loop (fun a w=>∃b,e b a w) (fun a w=>leastOf (fun b=>e b a w)) ⟨i,o⟩ ?_;intro a w p;obtain⟨q,s⟩:=leastOf_spec p;refine wpIn_mono (m _ a w q) ?_;intro r g w' d;cases r with
 | normal =>
  obtain⟨f,n,j⟩:=d
  have h:∃b,e b g w':=⟨f,j⟩
  exact⟨h,Nat.lt_of_le_of_lt ((leastOf_spec h).2 f j) n⟩
 | exit id=>exact d
 | goto l=>exact d
 | ret=>exact d
 | panic ch=>exact d
 | outgrown=>exact d}
theorem zlJ(b:Nat→Act→World→Prop)(d:Nat)(h:∀a,Has n a E→b d a w)(g:∀f a w,b f a w→c.wpIn (FR n.ro) 0 P (Exit.then (fun i w'=>∃e,e<f∧b e i w') Q) a w):C P n (.loop c) Q E w :=
 fun a j=>zhg b d (h a j) g
theorem zcE{f R:Type}{body:f→Option (Ctl f R)}{h:f}{r:Lp f R}(p:jO body h=some r)(Inv:f→Act→World→Prop)(q:∀a,Has n a E→Inv h a w)(o:∀(m:f→Prop) d a w,Inv d a w→(∃x,body d=some x∧(match x with|.nx b=>m b|.bk b=>Lp.fin b=r|.rt y=>Lp.rt y=r))→
   c.wpIn (FR n.ro) 0 P (Exit.then (fun j w'=>∃b,m b∧Inv b j w') Q) a w):C P n (.loop c) Q E w:=by{
 obtain⟨k,s⟩:=zhy.1 p;refine zlJ (fun g a w=>∃d,Jv body g d=some r∧Inv d a w) k (fun a t=>⟨h,s,q a t⟩) ?_;rintro g a w⟨d,i,u⟩;cases g with
 | zero=>simp[Jv]at i
 | succ g =>
  refine wpIn_mono (o (fun b=>Jv body g b=some r) d a w u ?_) ?_
  rw[Jv]at i
  split at i <;> simp_all
  intro v j w' e
  cases v with
  | normal=>obtain⟨b,h1,h2⟩:=e;exact⟨g,by omega,b,h1,h2⟩
  | exit id=>exact e
  | goto l=>exact e
  | ret=>exact e
  | panic ch=>exact e
  | outgrown=>exact e}
theorem ZY{g R:Type}{body:Nat→g→Option (Ctl g R)}{b:Nat}{i:g}{r:Lp g R}(s:zG body b 0 i=some r)(Inv:Nat→g→Act→World→Prop)(t:∀a,Has n a E→Inv 0 i a w)(p:∀(m:g→Prop) k e a w,Inv k e a w→k≤b→(k<b→∃x,body k e=some x∧(match x with|.nx d=>m d|.bk d=>Lp.fin d=r|.rt y=>Lp.rt y=r))→(k=b→Lp.fin e=r)→
   c.wpIn (FR n.ro) 0 P (Exit.then (fun j w'=>∃d,k<b∧m d∧Inv (k+1) d j w') Q) a w):C P n (.loop c) Q E w:=by{
 refine zlJ (fun o a w=>∃k e,o=b-k∧k≤b∧zG body (b-k) k e=some r∧Inv k e a w) b (fun a u=>⟨0,i,rfl,by omega,s,t a u⟩) ?_;rintro o a w⟨k,e,rfl,v,h,z⟩;refine wpIn_mono (p (fun d=>zG body (b-(k+1)) (k+1) d=some r) k e a w z v ?_ ?_) ?_;intro q;rw[show b-k=(b-(k+1))+1 by omega,zG]at h;split at h <;> simp_all
 intro B;rw[show b-k=0 by omega,zG]at h;exact Option.some.inj h;intro A j w' f;cases A with
 | normal=>obtain⟨d,q,h1,h2⟩:=f;exact⟨b-(k+1),by omega,k+1,d,rfl,by omega,h1,h2⟩
 | exit id=>exact f
 | goto l=>exact f
 | ret=>exact f
 | panic ch=>exact f
 | outgrown=>exact f}
end code
section ret
variable{P:Program}{n:Fr}{fn:Func}{E:Env}{w:World}{a:Act}{R:Value→World→Prop}
theorem Has.getD{t:Nat}{v:Value}(c:Has n a E)(b:E.get t=some v):a.tmps.getD t undef=v:=by{simp[Array.getD_eq_getD_getElem?,c.get t v b]}
end ret
def Y(P:Program)(n:Fr)(E:Env)(o:Oper)(w:World)(v:Value)(w':World):Prop:=∀a,Has n a E→(execOp a.eval o).run P w=.ok (.value v) w'
section steps
variable{P:Program}{n:Fr}{ops:Array Oper}{Q:Exit→Act→World→Prop}{E E':Env}{w w':World}{o:Oper}{rest l:List Oper}{v:Value}{d:Nat}{W:World→Prop}{QA:Act→Prop}
theorem V.sub(d:V P n ops Q l E' w)(b:subE E' E):V P n ops Q l E w:=fun a c=>d a (c.sub b)
theorem V_y(e:Y P n E o w v w')(f:o.guard=none)(g:o.dst=some d)(h:Nat.blt d n.sz=true)(b:V P n ops Q rest ((d,v)::E) w'):V P n ops Q (o::rest) E w:=by{intro a c;refine wpListIn_plain f fun j i=>⟨fun _ _=>trivial,?_⟩;rw[je (e a c) (fun d b=>by cases b),Oper.uponIn_value,g];exact i _ _ (b _ (c.put h))}
theorem VQ_y(c:∀w,W w→Y P n E o w v w)(e:o.guard=none)(f:o.dst=some d)(g:Nat.blt d n.sz=true)(j:VQ P n ops W QA rest ((d,v)::E)):VQ P n ops W QA (o::rest) E:=by{intro a b;refine wpQuiet_step fun l h=>?_;rw[if_pos (by simp[Region.wanted,e])];refine⟨v,fun w i=>?_,?_⟩;unfold Oper.quietAt;rw[c w i a b];exact⟨rfl,rfl⟩;rw[f];exact h _ (j _ (b.put g))}
def zbl(ops:Array Oper)(j:Nat):Option Nat:=(ops[j]?).bind (·.dst)
theorem zei{j t:Nat}{c b:Bool}{a:Act}(e:Has n a E)(f:o.guard=some (j,c))(d:zbl ops j=some t)(g:E.get t=some (.bool b)):
  Region.wanted o (yielded ops a.tmps)=(b==c):=by{unfold zbl at d;simp only[Region.wanted,f,yielded,d,Option.bind_some,e.get t _ g];cases b <;> cases c <;> rfl}
theorem V_gy{j t:Nat}{b:Bool}(d:o.guard=some (j,b))(e:zbl ops j=some t)(f:E.get t=some (.bool b))(h:V P n ops Q ({ o with guard:=none }::rest) E w):V P n ops Q (o::rest) E w:=by{intro a c;have g:=zei (o:=o) c d e f;have:=h a c;unfold wpListIn at this ⊢;rw[if_pos (by simp[g])];rw[if_pos (by simp[Region.wanted])]at this;exact this}
theorem V_gn{j t:Nat}{c b e:Bool}(h:o.guard=some (j,c))(i:zbl ops j=some t)(l:E.get t=some (.bool b))(m:b=e)(p:(e==c)=false)(q:o.dst=some d)(r:Nat.blt d n.sz=true)(s:V P n ops Q rest ((d,undef)::E) w):V P n ops Q (o::rest) E w:=by{intro a f;have g:=zei (o:=o) f h i l;unfold wpListIn;rw[if_neg (by simp[g,m,p]),q];exact⟨fun _ _=>trivial,s _ (f.put r)⟩}
theorem V_gu{j t:Nat}{e:Bool}(g:o.guard=some (j,e))(b:zbl ops j=some t)(h:E.get t=some undef)(i:o.dst=some d)(l:Nat.blt d n.sz=true)(m:V P n ops Q rest ((d,undef)::E) w):V P n ops Q (o::rest) E w:=by{
 intro a c
 have f:Region.wanted o (yielded ops a.tmps)=false:=by
  unfold zbl at b
  simp only[Region.wanted,g,yielded,b,Option.bind_some,c.get t _ h]
  rfl
 unfold wpListIn;rw[if_neg (by simp[f]),i];exact⟨fun _ _=>trivial,m _ (c.put l)⟩}
theorem znv{j t:Nat}{b:Bool}(d:o.guard=some (j,b))(e:zbl ops j=some t)(f:E.get t=some (.bool b))(h:VQ P n ops W QA ({ o with guard:=none }::rest) E):VQ P n ops W QA (o::rest) E:=by{intro a c;have g:=zei (o:=o) c d e f;have:=h a c;unfold wpQuiet at this ⊢;rw[if_pos (by simp[g])];rw[if_pos (by simp[Region.wanted])]at this;exact this}
theorem znn{j t:Nat}{c b e:Bool}(h:o.guard=some (j,c))(i:zbl ops j=some t)(l:E.get t=some (.bool b))(m:b=e)(p:(e==c)=false)(q:o.dst=some d)(r:Nat.blt d n.sz=true)(s:VQ P n ops W QA rest ((d,undef)::E)):VQ P n ops W QA (o::rest) E:=by{intro a f;have g:=zei (o:=o) f h i l;unfold wpQuiet;rw[if_neg (by simp[g,m,p]),q];exact s _ (f.put r)}
theorem V_ge{j t:Nat}{a b:Bool}(c:o.guard=some (j,a))(d:zbl ops j=some t)(e:E.get t=some (.bool b))(f:b=a)(g:V P n ops Q ({ o with guard:=none }::rest) E w):V P n ops Q (o::rest) E w:=by subst f;exact V_gy c d e g
theorem znr{j t:Nat}{a b:Bool}(c:o.guard=some (j,a))(d:zbl ops j=some t)(e:E.get t=some (.bool b))(f:b=a)(g:VQ P n ops W QA ({ o with guard:=none }::rest) E):VQ P n ops W QA (o::rest) E:=by subst f;exact znv c d e g
theorem zju{F:Fence}{l1 l2:List Oper}{M:Act→World→Prop}(f:∀a w,M a w→wpListIn F 0 P ops Q l2 a w):∀(a:Act) (w:World),wpListIn F 0 P ops (Exit.then M Q) l1 a w→wpListIn F 0 P ops Q (l1++l2) a w:=by{
 induction l1 with
 | nil=>intro a w b;exact f a w b
 | cons o l1 ih =>
  intro a w b
  rw[List.cons_append]
  unfold wpListIn at b⊢
  split
  ·rename_i hw
   rw[if_pos hw]at b
   refine⟨b.1,?_⟩
   have b:=b.2
   generalize (o.semAt F.round a.eval).run P w=r at b⊢
   cases r with
   | ok nx w1 =>
    cases nx <;> simp only[Oper.uponIn]at b⊢
    case value v=>exact ih _ _ b
    case skip=>exact ih _ _ b
    case defer=>exact ih _ _ b
    case enter =>
     refine⟨b.1,CallsIn.mono b.2 ?_⟩
     intro d e c
     cases d with
     | returned v=>exact ih _ _ c
     | panicked ch=>exact c
     | outgrown=>exact c
    case row=>exact⟨b.1,RowsIn.mono b.2 (fun v e c=>ih _ _ c)⟩
    case round =>
     refine⟨b.1,RoundIn.mono b.2 ?_⟩
     intro d e c
     cases d with
     | returned v=>exact ih _ _ c
     | panicked ch=>exact c
     | outgrown=>exact c
   | halt x w1=>cases x <;> simp only[Oper.uponIn]at b⊢ <;> exact b
  rename_i hw
  rw[if_neg hw]at b
  exact⟨b.1,ih _ _ b.2⟩}
theorem ZF{ι:Type}(k:Nat)(M:ι→Env)(F:ι→World→Prop)(c:V P n ops (Exit.then (fun a w'=>∃b,Has n a (M b)∧F b w') Q) (l.take k) E w)(d:∀b w',F b w'→V P n ops Q (l.drop k) (M b) w'):V P n ops Q l E w:=by{intro a e;have:=zju (F:=FR n.ro) (l1:=l.take k) (l2:=l.drop k) (Q:=Q) (M:=fun a w'=>∃b,Has n a (M b)∧F b w') (fun a w ⟨b,f,g⟩=>d b w g a f) a w (c a e);rwa[List.take_append_drop]at this}
theorem zjH{l1 l2:List Oper}:∀(a:Act),wpQuiet P ops W (fun a=>wpQuiet P ops W QA l2 a) l1 a→wpQuiet P ops W QA (l1++l2) a:=by{
 induction l1 with
 | nil=>intro a b;exact b
 | cons o l1 ih =>
  intro a b
  rw[List.cons_append]
  unfold wpQuiet at b⊢
  split
  rename_i hw
  rw[if_pos hw]at b
  exact Oper.quiet_mono (fun a b=>ih a b) b
  rename_i hw
  rw[if_neg hw]at b
  exact ih _ b}
theorem zdI{QB:Act→Prop}(hq:∀a,QA a→QB a):∀(l:List Oper) (a:Act),wpQuiet P ops W QA l a→wpQuiet P ops W QB l a
 | [],a,h=>hq a h
 | o::l,a,h=>by
  unfold wpQuiet at h⊢
  split
  ·rename_i hw
   rw[if_pos hw]at h
   exact Oper.quiet_mono (fun a h=>zdI hq l a h) h
  ·rename_i hw
   rw[if_neg hw]at h
   exact zdI hq l _ h
theorem zcQ{ι:Type}(k:Nat)(M:ι→Env)(F:ι→Prop)(c:VQ P n ops W (fun a=>∃b,Has n a (M b)∧F b) (l.take k) E)(d:∀b,F b→VQ P n ops W QA (l.drop k) (M b)):VQ P n ops W QA l E:=by{intro a e;have:=zjH (P:=P) (ops:=ops) (W:=W) (QA:=QA) (l1:=l.take k) (l2:=l.drop k) a (zdI (fun a ⟨b,f,g⟩=>d b g a f) _ _ (c a e));rwa[List.take_append_drop]at this}
theorem jw(c:∀a,Has n a E→QA a):VQ P n ops W QA [] E:=fun a b=>wpQuiet_nil (c a b)
theorem V_to{b:Exit→Act→World→Prop}{y:Code}(c:∀a w,b .normal a w=y.wpIn (FR n.ro) 0 P Q a w)(e:C P n y Q E w):V P n ops b [] E w:=fun a d=>wpListIn_nil (by rw[c];exact e a d)
theorem zlC{b:Exit→Act→World→Prop}{y:Code}(c:∀a w,b .normal a w=y.wpIn (FR n.ro) 0 P Q a w)(e:C P n y Q E w):C P n .skip b E w:=fun a d=>wpIn_skip (by rw[c];exact e a d)
section quietIn
variable{md:Region.Mode}
theorem zih{ro:Option Nat}{a:Act}{m:Act→Prop}{l:Act→World→Prop}{Q':Exit→Act→World→Prop}{w:World}(g:W w)(b:∀a w',W w'→m a→l a w')(q:o.quiet P a W m):o.wpIn (FR ro) 0 P a w l Q':=by{
 obtain⟨v,s,h⟩:=q;have c:=s w g;unfold Oper.quietAt at c;refine⟨fun _ _=>trivial,?_⟩;generalize i:(execOp a.eval o).run P w=r at c;cases r with
 | ok n w' =>
  cases n <;> simp only[Oper.quietUpon]at c
  case value u =>
   obtain⟨e,j⟩:=c
   rw[je i (fun d b=>by cases b),e,j]
   exact b _ _ g h
  case skip =>
   obtain⟨e,j⟩:=c
   rw[je i (fun d b=>by cases b),e]
   subst j
   exact b _ _ g h
  case enter f args =>
   obtain⟨e,t⟩:=c
   rw[je i (fun d b=>by cases b),e]
   exact⟨zeP _,zhM (Calls.mono t fun A z ⟨y,p⟩=>by subst y;exact b _ _ p h)⟩
 | halt x w'=>simp only[Oper.quietUpon]at c}
theorem zfq{ro:Option Nat}{i:Nat}{a:Act}{f:Act→Prop}{e:Act→World→Prop}{Q':Exit→Act→World→Prop}{w:World}(c:W w)(d:∀a w',W w'→f a→e a w')(b:qOp P ops W i f a):wpOpIn (FR ro) 0 P ops Q' i e a w:=by{unfold qOp at b;unfold wpOpIn;split;rename_i ho;simp only[ho]at b;exact d _ _ c b;rename_i o ho;simp only[ho]at b;split;rename_i hw;simp only[hw,if_true]at b;exact zih c d b;rename_i hw;simp only[hw]at b;exact⟨fun _ _=>trivial,d _ _ c b⟩}
theorem zdJ{ro:Option Nat}{QB:Act→Prop}{Q':Exit→Act→World→Prop}(hQ:∀a w,W w→QB a→Q' .normal a w):∀(fuel:Nat) (listed:Array Bool) (a:Act) (w:World),W w→
  wpAnyQ P md ops W QB fuel listed a→wpAnyIn (FR ro) 0 P md ops Q' fuel listed a w
 | 0,_,_,_,hw,h=>⟨h.1,hQ _ _ hw h.2⟩
 | fuel+1,_,_,_,hw,h=>⟨fun h0=>hQ _ _ hw (h.1 h0),fun i hi=>zfq hw (fun a' w' hw'=>zdJ hQ fuel _ a' w' hw') (h.2 i hi)⟩
theorem zcz{F:Fence}{Q':Exit→Act→World→Prop}:∀(l:List Oper) (k:Nat) (c:Array Bool) (a:Act) (w:World),(∀b,l[b]?=ops[k+b]?)→
  Region.seqB md ops l.length k c=true→wpListIn F 0 P ops Q' l a w→wpAnyIn F 0 P md ops Q' l.length c a w
 | [],_,_,_,_,_,hB,h=>⟨by simpa [Region.seqB]using hB,h⟩
 | o::l,k,c,a,w,hl,hB,h=>by
  have h0:ops[k]?=some o:=by simpa using (hl 0).symm
  simp only[List.length_cons,Region.seqB,Bool.and_eq_true,decide_eq_true_eq]at hB
  refine⟨fun e=>(by rw[hB.1]at e;cases e),fun d f=>?_⟩
  rw[hB.1]at f
  have g:d=k:=by simpa using f
  subst g
  have i:wpOpIn F 0 P ops Q' d (wpListIn F 0 P ops Q' l) a w:=by unfold wpOpIn;simp only[h0];exact h
  exact wpOpIn_mono (fun j w' m=>zcz l (d+1) _ j w' (fun b=>by have:=hl (b+1);simpa [Nat.add_assoc,Nat.add_comm 1 b]using this) hB.2 m) i
end quietIn
theorem Zn{Dw:Prop}{id:Nat}(e:P.follows .mixedOrders=true)(hB:Region.lexB .any l.toArray=true)(c:VQ P n l.toArray (fun w'=>Kp Dw w w') (fun b=>∀w',Kp Dw w w'→Q .normal b w') l E):C P n (.region id l.toArray true) Q E w:=by{intro a f;simp only[Region.lexB,Bool.and_eq_true]at hB;refine wpIn_region_any e (zdJ (W:=fun w'=>Kp Dw w w') (QB:=fun b=>∀w',Kp Dw w w'→Q .normal b w') (fun _ w' d c=>c w' d) _ _ _ _ (Bel.drew _) ?_);have:=wpAnyQ_lex (C:=fun w'=>Kp Dw w w') (md := .any) hB.1 l 0 (Array.replicate l.toArray.size false) a (by simp) (by simpa using hB.2) (c a f);simpa using this}
theorem Qk{b:Exit→Act→World→Prop}{y:Code}(d:∀a w,b .normal a w=y.wpIn (FR n.ro) 0 P Q a w)(g:∀w',W w'→C P n y Q E w'):VQ P n ops W (fun e=>∀w',W w'→b .normal e w') [] E :=
 fun a f=>wpQuiet_nil fun w' c=>by rw[d];exact g w' c a f
theorem zB{ι:Type}{x:Code}(M:ι→Env)(F:ι→World→Prop)(d:C P n x (Exit.then (fun a w'=>∃b,Has n a (M b)∧F b w') Q) E w)(e:∀b w',F b w'→∀a,Has n a (M b)→Q .normal a w'):C P n x Q E w:=by{
 intro a g;refine wpIn_mono (d a g) ?_;intro j i w' c;cases j with
 | normal=>obtain⟨b,h,f⟩:=c;exact e b w' f i h
 | exit id=>exact c
 | goto l=>exact c
 | ret=>exact c
 | panic ch=>exact c
 | outgrown=>exact c}
theorem C_at{b:Exit→Act→World→Prop}{y:Code}{a:Act}(c:∀a w,b .normal a w=y.wpIn (FR n.ro) 0 P Q a w)(e:C P n y Q E w)(d:Has n a E):b .normal a w:=by rw[c];exact e a d
theorem C_of{y:Code}{a:Act}(c:C P n y Q E w)(b:Has n a E):y.wpIn (FR n.ro) 0 P Q a w:=c a b
theorem zI{b:Bool}{d:Value}{ρd:Option Nat}{ty:TypeId}{pos:String}{af:Array Edge}{g:Option (Nat×Bool)}{x y z:Operand}(e:ev E x=some (.bool b))(f:b=true)(h:ev E y=some d:=by exact rfl):Y P n E ⟨ρd,.pick x y z,ty,pos,af,g⟩ w d w :=
 fun a c=>by subst f;simp only[execOp,c.eval e];simp[asBool,c.eval h]
theorem zD{b:Bool}{d:Value}{ρd:Option Nat}{ty:TypeId}{pos:String}{af:Array Edge}{g:Option (Nat×Bool)}{x y z:Operand}(e:ev E x=some (.bool b))(f:b=false)(h:ev E z=some d:=by exact rfl):Y P n E ⟨ρd,.pick x y z,ty,pos,af,g⟩ w d w :=
 fun a c=>by subst f;simp only[execOp,c.eval e];simp[asBool,c.eval h]
theorem Zv{k a:Nat}(b:decide ((k:Int)<(a:Int))=true):k<a:=by have:=of_decide_eq_true b;omega
theorem Zu{k a:Nat}(c:k≤a)(b:decide ((k:Int)<(a:Int))=false):k=a:=by have:=of_decide_eq_false b;omega
theorem zmd{k a:Nat}(c:k<a)(b:a≤maxLen):w64 ((k:Int)+1)=((k+1:Nat):Int):=by{simp only[maxLen]at b;rw[ZB] <;> omega}
def zaD(P:Program)(md:Region.Mode)(ops:Array Oper)(W:World→Prop)(k:Nat)(L:Array Bool→Act→Prop):Nat→Array Bool→Act→Prop
 | 0,listed,a=>L listed a
 | f+1,listed,a =>
  Region.ready md ops listed≠[]∧∀i∈Region.ready md ops listed,i<k∧qOp P ops W i (zaD P md ops W k L f (listed.setIfInBounds i true)) a
section quiettail
variable{md:Region.Mode}
theorem zdV{ro:Option Nat}{k g:Nat}{L:Array Bool→Act→Prop}{Q':Exit→Act→World→Prop}(hL:∀listed a w,W w→L listed a→wpAnyIn (FR ro) 0 P md ops Q' g listed a w):
  ∀(f:Nat) (listed:Array Bool) (a:Act) (w:World),W w→zaD P md ops W k L f listed a→wpAnyIn (FR ro) 0 P md ops Q' (f+g) listed a w
 | 0,listed,a,w,hw,h=>by rw[Nat.zero_add];exact hL _ _ _ hw h
 | f+1,listed,a,w,hw,h=>by
  rw[show f+1+g=(f+g)+1 by omega]
  exact⟨fun h0=>absurd h0 h.1,fun i hi=>zfq hw (fun a' w' hw' h'=>zdV hL f _ a' w' hw' h') (h.2 i hi).2⟩
theorem ziy{k i:Nat}{n:Oper}{v:Value}{L:Array Bool→Act→Prop}(hi:ops[i]?=some n)(A:∀(j:Nat) (o:Oper) p r,ops[j]?=some o→o.op≠.select p r)(F:Region.sinkB md ops k=true)(G:Region.chainB md ops k=true)(H:k<ops.size)(D:i<k)(K:∀b a,L b a→∀j∈Region.ready md ops b,k≤j):
  ∀(f:Nat) (b:Array Bool) (a:Act),HeadInv md ops k b→
   (∀j l,ops[j]?=some l→j≠i→b.getD j true=false→(∀d∈l.after,Region.binds md d=true→d.on≠i)→n.apart ops l=true)→
   i∈Region.ready md ops b→YieldsIn P ops W n v a→
   zaD P md ops W k L f (b.setIfInBounds i true) (a.put n.dst v)→zaD P md ops W k L (f+1) b a:=by{
 intro f;induction f with
 | zero =>
  intro b a t _ g w s
  have h:=(mem_ready.1 g).1
  refine⟨fun c=>(by rw[c]at g;cases g),fun j m=>?_⟩
  have u:j<k:=by
   rcases Nat.lt_or_ge j k with c|c
   exact c
   exact absurd m (tail_waits F G H t _ i rfl D h j c)
  refine⟨u,?_⟩
  by_cases e:j=i
  subst e;exact w.qOp hi s
  have:=K _ _ s j (ready_mono m e)
  omega
 | succ f ih =>
  intro b a t z g w s
  have h:=(mem_ready.1 g).1
  refine⟨fun c=>(by rw[c]at g;cases g),fun j m=>?_⟩
  have u:j<k:=by
   rcases Nat.lt_or_ge j k with c|c
   exact c
   exact absurd m (tail_waits F G H t _ i rfl D h j c)
  refine⟨u,?_⟩
  by_cases e:j=i
  subst e;exact w.qOp hi s
  have x:=(s.2 j (ready_mono m e)).2
  obtain⟨B,l,y,M⟩:=mem_ready.1 m
  have N:∀d∈l.after,Region.binds md d=true→d.on≠i:=fun d S T O=>by
   have x:=M d S T
   rw[O,getD_both h]at x
   cases x
  have U:=qOp_put y (z j l y e B N) (fun p r=>A i n p r hi) (fun p r=>A j l p r y) w x
  have J:∀k q,ops[k]?=some q→k≠i→(b.setIfInBounds j true).getD k true=false→
    (∀d∈q.after,Region.binds md d=true→d.on≠i)→n.apart ops q=true:=fun k q X Q h R=>by
   refine z k q X Q ?_ R
   by_cases E:j=k
   ·subst E;exact B
   ·rw[getD_set_ne true E]at h;exact h
  refine qOp_mono (fun Z I=>ih (b.setIfInBounds j true) Z (t.set m u) J (ready_mono g (Ne.symm e)) I.1 ?_) U
  rw[Array.setIfInBounds_comm _ _ e]
  exact I.2}
theorem zgw{k g:Nat}{e:Act→Prop}(i:Region.noSelect ops=true)(p:Region.sinkB md ops k=true)(q:Region.chainB md ops k=true)(r:k<ops.size):
  ∀(l:List Oper) (j:Nat) (b:Array Bool) (a:Act),(∀c,c<l.length→l[c]?=ops[j+c]?)→j+l.length=k→HeadInv md ops k b→
  Region.lexHead md ops g l.length j b=true→wpQuiet P ops W e l a→
  zaD P md ops W k (fun f s=>Region.seqB md ops g k f=true∧e s) l.length b a
 | [],j,b,a,_,hk,_,hB,h=>by
  have:j=k:=by simpa using hk
  subst this
  exact⟨by simpa [Region.lexHead]using hB,h⟩
 | o::l,j,b,a,hl,hk,inv,hB,h=>by
  have d:ops[j]?=some o:=by simpa using (hl 0 (by simp)).symm
  simp only[List.length_cons,Region.lexHead,Bool.and_eq_true]at hB
  obtain⟨⟨w,x⟩,t⟩:=hB
  have m:j<k:=by simp only[List.length_cons]at hk;omega
  have n:j∈Region.ready md ops b:=by simpa using w
  have u:qOp P ops W j (wpQuiet P ops W e l) a:=by unfold qOp;simp only[d];exact h
  obtain⟨v,y,z⟩:=yieldsIn_of_qOp d u
  exact ziy d (Region.noSelect_spec i) p q r m (fun f s A=>seqB_ready A.1) l.length b a inv (Region.free_spec d x) n y
   (zgw i p q r l (j+1) _ _ (fun c B=>by have:=hl (c+1) (by simp;omega);simpa [Nat.add_assoc,Nat.add_comm 1 c]using this) (by simp only[List.length_cons]at hk;omega) (inv.set n m) t z)
end quiettail
theorem zaY{Dw:Prop}{id:Nat}(k:Nat)(s:P.follows .mixedOrders=true)(hB:Region.lexTailB .any l.toArray k=true)(z:VQ P n l.toArray (fun w'=>Kp Dw w w') (fun c=>∀w',Kp Dw w w'→wpListIn (FR n.ro) 0 P l.toArray Q (l.drop k) c w') (l.take k) E):C P n (.region id l.toArray true) Q E w:=by{
 intro a u;simp only[Region.lexTailB,Bool.and_eq_true,decide_eq_true_eq]at hB;obtain⟨⟨⟨⟨m,f⟩,v⟩,x⟩,o⟩:=hB;have B:k<l.length:=by simpa using f
 have b:(l.take k).length=k:=by simp;omega
 have e:(l.drop k).length=l.toArray.size-k:=by simp
 have p:HeadInv .any l.toArray k (Array.replicate l.toArray.size false) :=
  ⟨by simp,fun d D _ g=>(by rw[getD_replicate_false]at g;cases g),fun t _ y=>getD_in (by simpa using y) (getD_replicate_false _ _)⟩
 have A:=zgw (md := .any) (g:=l.toArray.size-k) m v x f (l.take k) 0 _ a (fun d h=>by
  have q:d<k:=by rw[b]at h;exact h
  simp[q]) (by simpa using b) p (by rw[b];exact o) (z a u)
 refine wpIn_region_any s ?_
 have:=zdV (ro:=n.ro) (Q':=Q) (g:=l.toArray.size-k) (fun j c w' r i=>by
  have:=zcz (F:=FR n.ro) (md := .any) (Q':=Q) (l.drop k) k j c w' (fun d=>by simp[List.getElem?_drop]) (by rw[e];exact i.1) (i.2 w' r)
  rwa[e]at this) _ _ _ { w with drawn:=w.drawn+1 } (Bel.drew _) A
 rw[b,show k+(l.toArray.size-k)=l.toArray.size by omega]at this;exact this}
theorem zdH{l2:List Oper}(e:∀w',W w'→V P n ops Q l2 E w'):VQ P n ops W (fun c=>∀w',W w'→wpListIn (FR n.ro) 0 P ops Q l2 c w') [] E :=
 fun a d=>wpQuiet_nil fun w' b=>e w' b a d
theorem nt{b:Bool}(a:b=false):¬b=true:=by rw[a];exact Bool.false_ne_true
variable{ρd:Option Nat}{ty t t2:TypeId}{pos:String}{af:Array Edge}{g:Option (Nat×Bool)}{x y z:Operand}
theorem zlc(b:ev E x=some v):Y P n E ⟨ρd,.move x,ty,pos,af,g⟩ w v w:=fun a c=>by simp only[execOp,c.eval b];rfl
theorem zjn(b:ev E x=some v):Y P n E ⟨ρd,.assign x,ty,pos,af,g⟩ w v w:=fun a c=>by simp only[execOp,c.eval b];rfl
theorem zaC{b:BinOp}{k:IntKind}{p q:Int}{d:Value}(i:binOp b t (.int k p) (.int k q)=pure d)(e:ev E x=some (.int k p))(f:ev E y=some (.int k q)):
  Y P n E ⟨ρd,.binOp b t x y t2,ty,pos,af,g⟩ w d w:=fun a c=>by
 have h:(eqGuard b t x y (.int k p) (.int k q))=pure ():=by unfold eqGuard;cases b <;> rfl
 simp only[execOp,c.eval e,c.eval f,h,i];rfl
variable{k:IntKind}{p q:Int}
theorem znx(a:ev E x=some (.int k p))(b:ev E y=some (.int k q)):Y P n E ⟨ρd,.binOp .add t x y t2,ty,pos,af,g⟩ w (.int k (k.wrap (p+q))) w:=zaC (by rw[binOp_add];rfl) a b
theorem znz(a:ev E x=some (.int k p))(b:ev E y=some (.int k q)):Y P n E ⟨ρd,.binOp .sub t x y t2,ty,pos,af,g⟩ w (.int k (k.wrap (p-q))) w:=zaC (by rw[binOp_sub];rfl) a b
theorem znw(a:ev E x=some (.int k p))(b:ev E y=some (.int k q)):Y P n E ⟨ρd,.binOp .mul t x y t2,ty,pos,af,g⟩ w (.int k (k.wrap (p*q))) w:=zaC (by rw[binOp_mul];rfl) a b
theorem zS(a:ev E x=some (.int k p):=by exact rfl)(b:ev E y=some (.int k q):=by exact rfl):Y P n E ⟨ρd,.binOp .eql t x y t2,ty,pos,af,g⟩ w (.bool (p==q)) w:=zaC (binOp_eql _ _ _ _) a b
theorem Zj(a:ev E x=some (.int k p):=by exact rfl)(b:ev E y=some (.int k q):=by exact rfl):Y P n E ⟨ρd,.binOp .neq t x y t2,ty,pos,af,g⟩ w (.bool (p != q)) w:=zaC (binOp_neq _ _ _ _) a b
theorem ZM(a:ev E x=some (.int k p):=by exact rfl)(b:ev E y=some (.int k q):=by exact rfl):Y P n E ⟨ρd,.binOp .lss t x y t2,ty,pos,af,g⟩ w (.bool (decide (p<q))) w:=zaC (binOp_lss _ _ _ _) a b
theorem zdF(a:ev E x=some (.int k p):=by exact rfl)(b:ev E y=some (.int k q):=by exact rfl):Y P n E ⟨ρd,.binOp .leq t x y t2,ty,pos,af,g⟩ w (.bool (decide (p≤q))) w:=zaC (binOp_leq _ _ _ _) a b
theorem zdv(a:ev E x=some (.int k p):=by exact rfl)(b:ev E y=some (.int k q):=by exact rfl):Y P n E ⟨ρd,.binOp .gtr t x y t2,ty,pos,af,g⟩ w (.bool (decide (q<p))) w:=zaC (binOp_gtr _ _ _ _) a b
theorem zbi(a:ev E x=some (.int k p):=by exact rfl)(b:ev E y=some (.int k q):=by exact rfl):Y P n E ⟨ρd,.binOp .geq t x y t2,ty,pos,af,g⟩ w (.bool (decide (q≤p))) w:=zaC (binOp_geq _ _ _ _) a b
theorem zmp{r:Int}(a:quo p q=some r)(b:ev E x=some (.int .i64 p))(c:ev E y=some (.int .i64 q)):Y P n E ⟨ρd,.binOp .quo t x y t2,ty,pos,af,g⟩ w (.int .i64 r) w:=by{unfold quo at a;split at a;cases a;rename_i h0;refine zaC ?_ b c;rw[binOp_quo];simp only[Op.intDiv,h0,if_false];exact congrArg (fun z=>pure (Value.int .i64 z)) (Option.some.inj a)}
theorem zms{r:Int}(a:rem p q=some r)(b:ev E x=some (.int .i64 p))(c:ev E y=some (.int .i64 q)):Y P n E ⟨ρd,.binOp .rem t x y t2,ty,pos,af,g⟩ w (.int .i64 r) w:=by{unfold rem at a;split at a;cases a;rename_i h0;refine zaC ?_ b c;rw[binOp_rem];simp only[Op.intDiv,h0,if_false];exact congrArg (fun z=>pure (Value.int .i64 z)) (Option.some.inj a)}
theorem qz{b:Bool}(c:ev E x=some (.bool b):=by exact rfl):Y P n E ⟨ρd,.unOp .not t x,ty,pos,af,g⟩ w (.bool (!b)) w:=fun a d=>by simp only[execOp,d.eval c];rfl
theorem zA{i:Nat}{vs:Array Value}(b:ev E x=some (.tuple vs))(hi:vs[i]?=some v):Y P n E ⟨ρd,.extract x i,ty,pos,af,g⟩ w v w:=fun a c=>by
 simp only[execOp,c.eval b,Instr.extract,hi];rfl
theorem Za(a:ev E x=some (.int .i64 p):=by exact rfl)(b:ev E y=some (.int .i64 q):=by exact rfl):Y P n E ⟨ρd,.binOp .add t x y t2,ty,pos,af,g⟩ w (.int .i64 (w64 (p+q))) w:=znx a b
theorem qi(a:ev E x=some (.int .i64 p):=by exact rfl)(b:ev E y=some (.int .i64 q):=by exact rfl):Y P n E ⟨ρd,.binOp .sub t x y t2,ty,pos,af,g⟩ w (.int .i64 (w64 (p-q))) w:=znz a b
theorem zlw(a:ev E x=some (.int .i64 p):=by exact rfl)(b:ev E y=some (.int .i64 q):=by exact rfl):Y P n E ⟨ρd,.binOp .mul t x y t2,ty,pos,af,g⟩ w (.int .i64 (w64 (p*q))) w:=znw a b
theorem zhR{f:FuncId}{c:Operand}{b:Array Operand}{h:Array TypeId}{vs:List Value}{cap fst:Array Value}{a:Act}(d:Has n a E)(e:∀(b:Array Value) (w:World),(callFunc f b).run P w=.ok (.enter f b) w)(i:ev E c=some (.func (.func f) fst cap))(j:evs E b.toList=some vs):
  (execOp a.eval ⟨ρd,.call ⟨.value c,b,h⟩,ty,pos,af,g⟩).run P w=.ok (.enter f (fst++vs.toArray++cap)) w:=by{
 have l:b.map a.eval=vs.toArray:=by
  have:=d.evals j
  apply Array.toList_inj.1
  rw[Array.toList_map,this]
 simp only[execOp,resolve,l,d.eval i,Deferred.ofValue,pure_bind,invoke,e]}
theorem zlQ{f:FuncId}{e:Operand}{b:Array Operand}{j:Array TypeId}{vs:List Value}{cap fst vals:Array Value}{R:Value→World→Prop}(h:∀(b:Array Value) (w:World),(callFunc f b).run P w=.ok (.enter f b) w)(l:ev E e=some (.func (.func f) fst cap))(m:evs E b.toList=some vs)(i:fst++vs.toArray++cap=vals)(o:Nat.blt d n.sz=true)(p:Ret P f vals w R)(c:∀v w',R v w'→V P n ops Q rest ((d,v)::E) w'):V P n ops Q (⟨some d,.call ⟨.value e,b,j⟩,ty,pos,af,none⟩::rest) E w:=by{intro a g;refine wpListIn_plain rfl fun s q=>⟨fun _ _=>trivial,?_⟩;rw[je (zhR g h l m) (fun d c=>by cases c),Oper.uponIn_enter,i];refine⟨zeP _,zhM (Calls.mono p ?_)⟩;rintro t w'⟨v,rfl,r⟩;exact q _ _ (c v w' r _ (g.put o))}
theorem jT{f:FuncId}{c:Operand}{b:Array Operand}{j:Array TypeId}{vs:List Value}{cap fst vals:Array Value}(v:Value)(h:∀(b:Array Value) (w:World),(callFunc f b).run P w=.ok (.enter f b) w)(l:ev E c=some (.func (.func f) fst cap))(m:evs E b.toList=some vs)(i:fst++vs.toArray++cap=vals)(o:Nat.blt d n.sz=true)(p:∀w,W w→Ret P f vals w fun g w'=>g=v∧W w')(t:VQ P n ops W QA rest ((d,v)::E)):VQ P n ops W QA (⟨some d,.call ⟨.value c,b,j⟩,ty,pos,af,none⟩::rest) E:=by{intro a e;refine wpQuiet_step fun u q=>?_;rw[if_pos (by simp[Region.wanted])];refine⟨v,fun w r=>?_,q _ (t _ (e.put o))⟩;unfold Oper.quietAt;rw[zhR e h l m,i];refine⟨rfl,Calls.mono (p w r) ?_⟩;rintro x w'⟨g,rfl,rfl,s⟩;exact⟨rfl,s⟩}
end steps
end Go.Gw
