import Derived.Test.YtcnidlpginehjaaGreatGd
namespace Go.Gw
open Go Go.RowKit Go.Pu
variable{Dw:Prop}
set_option linter.unusedSimpArgs false
set_option linter.unusedVariables false
def jp(o:Oper):Bool:=match o.op with
  | .load .. | .fieldAddr .. | .move _ | .assign _ | .binOp .. | .unOp .. | .extract .. | .field .. | .indexAddr .. | .index .. | .convert .. | .slice .. | .build .. | .makeFunc .. | .makeInterface .. | .nilCheck _ | .pick .. | .lookup .. => true
  | .call ⟨.builtin .len,_,_⟩ | .call ⟨.builtin .min,_,_⟩ | .call ⟨.builtin .max,_,_⟩=>true
  | _=>false
theorem zhr{r:Operand→Value}{o:Oper}{P:Program}{w w':World}{h:Next}(e:jp o=true)(d:(execOp r o).run P w=.ok h w'):∃j,h=.value j:=by{
 obtain⟨p,g,u,q,v,z⟩:=o;unfold jp at e;cases g with
 | move x=>simp only[execOp]at d;simp at d;exact⟨_,d.1.symm⟩
 | assign x=>simp only[execOp]at d;simp at d;exact⟨_,d.1.symm⟩
 | load t a=>exact Zy d
 | fieldAddr t a i=>exact Zy d
 | unOp g t x=>exact Zy d
 | extract x i=>exact Zy d
 | field t x i=>exact Zy d
 | binOp g t x y t2=>exact Zy d
 | indexAddr t x i=>exact Zy d
 | index t x i=>exact Zy d
 | convert a b x=>exact Zy d
 | slice t x lo hi mx=>exact Zy d
 | build t ps=>exact Zy d
 | lookup t x k c=>exact Zy d
 | makeFunc f a b=>exact Zy d
 | makeInterface t x=>exact Zy d
 | pick c x y =>
  simp only[execOp,Sem.run_bind]at d
  cases hs:(asBool (r c)).run P w with
  | ok j w1=>rw[hs]at d;simp[Result.andThen]at d;exact⟨_,d.1.symm⟩
  | halt x w1=>rw[hs]at d;simp[Result.andThen]at d
 | nilCheck x =>
  simp only[execOp]at d
  split at d
  simp[runtimePanic]at d
  simp[runtimePanic]at d
  simp[runtimePanic]at d
  split at d
  simp[runtimePanic]at d
  simp[Result.andThen]at d
  split at d
  split at d
  simp at d;exact⟨_,d.1.symm⟩
  cases d
  cases d
  simp at d;exact⟨_,d.1.symm⟩
  simp at d;exact⟨_,d.1.symm⟩
 | call c =>
  obtain⟨l,n,s⟩:=c
  cases l with
  | builtin b =>
   cases b <;> simp only[Bool.false_eq_true]at e <;> (simp only[execOp,resolve,invoke,builtin,pure_bind]at d;exact Zy d)
  | value f=>simp at e
  | invoke x m=>simp at e
 | _=>simp at e}
def Jl(o:Oper):Bool:=match o.op with
  | .defer _=>true
  | _=>false
def QF:Exit→Act→World→Prop:=fun _ _ _=>False
section
variable{P:Program}{ops:Array Oper}{md:Region.Mode}
def zdX(o:Oper):Bool:=match o.op with
  | .move _ | .assign _ | .extract .. => true
  | _=>false
theorem zjz{r:Operand→Value}{o:Oper}{P:Program}{w w1:World}{v:Value}(b:zdX o=true)(a:(execOp r o).run P w=.ok (.value v) w):(execOp r o).run P w1=.ok (.value v) w1:=by{
 obtain⟨d,c,f,e,g,h⟩:=o;unfold zdX at b;cases c with
 | move x=>simp only[execOp]at a⊢;simp at a⊢;exact a
 | assign x=>simp only[execOp]at a⊢;simp at a⊢;exact a
 | extract x ix =>
  simp only[execOp,Instr.extract]at a⊢
  cases hu:r x with
  | tuple vs =>
   rw[hu]at a
   cases hv:vs[ix]? with
   | none=>simp[hv,stuck,Sem.run]at a
   | some u=>simp[hv]at a⊢;exact a
  | _=>rw[hu]at a;simp[stuck,Sem.run]at a
 | _=>simp at b}
def XA(A:Nat→Prop)(w w':World):Prop:=w.heap.size≤w'.heap.size∧∀k,k<w.heap.size→A k→w'.heap[k]?=w.heap[k]?
theorem XA.ex{A:Nat→Prop}{w w':World}(b:XA A w w'):Ex A w A w':=⟨b.1,fun d c a=>⟨a,b.2 d c a⟩⟩
theorem XA.trans{A:Nat→Prop}{w w1 b:World}(a:XA A w w1)(k:XA A w1 b):XA A w b:=⟨Nat.le_trans a.1 k.1,fun e c d=>(k.2 e (Nat.lt_of_lt_of_le c a.1) d).trans (a.2 e c d)⟩
theorem XA.kp{A:Nat→Prop}{w w1:World}(a:Kp Dw w w1):XA A w w1:=⟨a.size,fun c b _=>a.block c b⟩
theorem XA.tr{B:Nat}{A A1:Nat→Prop}{w w1:World}(a:Tr Dw B A w A1 w1):XA A w w1:=⟨a.ex.size,fun d b c=>(a.ex.block d b c).2⟩
theorem XA.less{A A1:Nat→Prop}{w w1:World}(c:XA A1 w w1)(e:∀a,a<w.heap.size→A a→A1 a):XA A w w1:=⟨c.1,fun d b f=>c.2 d b (e d b f)⟩
def cls(Dw:Prop)(A:Nat→Prop)(b:Nat)(w w':World):Prop:=if b=0 then Kp Dw w w' else XA A w w'
theorem zaM{A:Nat→Prop}{b:Nat}{w:World}:cls Dw A b w w:=by unfold cls;split;exact Kp.refl w;exact XA.kp (Kp.refl (Dw:=Dw) w)
def sw(Dw:Prop)(A:Nat→Prop)(b:Nat)(w w':World):Prop:=(b=2→Kp Dw w w')∧(b=3→XA A w w')
def zdf(b k:Nat):Bool:=decide (k≤2)||(b==1&&k==3)
theorem zfN{A:Nat→Prop}{b k:Nat}{w w1 e:World}(g:b<2)(h:2≤k)(d:zdf b k=true)(f:sw Dw A k w w1)(a:cls Dw A b w1 e):cls Dw A b w e:=by{simp only[zdf,Bool.or_eq_true,decide_eq_true_eq,Bool.and_eq_true,beq_iff_eq]at d;rcases d with d|⟨rfl,rfl⟩;have c:=f.1 (by omega);unfold cls at a⊢;split;rename_i h0;rw[if_pos h0]at a;exact Kp.trans c a;rename_i h0;rw[if_neg h0]at a;exact XA.trans (XA.kp c) a;have c:=f.2 rfl;unfold cls at a⊢;rw[if_neg (by decide)]at a⊢;exact XA.trans c a}
def chOK(Dw:Prop)(P:Program)(ops:Array Oper)(ro:Option Nat)(A:Nat→Prop)(T:Act→World→Prop):List (Nat×Nat)→Act→World→Prop
  | [],a,w=>T a w
  | (b,i)::c,a,w=>if b<2 then qOp P ops (fun w'=>cls Dw A b w w') i (fun a'=>chOK Dw P ops ro A T c a' w) a else wpOpIn (FR ro) 0 P ops QF i (fun a' w'=>sw Dw A b w w'∧chOK Dw P ops ro A T c a' w') a w
def idxs(c:List (Nat×Nat)):List Nat:=c.map (·.2)
def ChP(md:Region.Mode)(ops:Array Oper)(n:Nat):List (Nat×Nat)→Prop
  | []=>True
  | (b,i)::c=>i<n∧i∉idxs c∧(∃o,ops[i]?=some o∧(∀e∈o.after,Region.binds md e=true→e.on<n∧e.on≠i∧e.on∉idxs c)∧
      (2≤b→Jl o=false∧∀j∈idxs c,∃oj,ops[j]?=some oj∧∃e∈oj.after,Region.binds md e=true∧(e.on=i∨e.on∈idxs c))∧
      (b<2→jp o=true∧∃S:List Nat,(∀s∈S,s∈idxs c∧∃os,ops[s]?=some os∧∃e∈os.after,Region.binds md e=true∧(e.on=i∨e.on∈S))∧∀p∈c,p.2∈S∨∃oj,ops[p.2]?=some oj∧o.apart ops oj=true∧(zdf b p.1=true∨zdX o=true)))∧ChP md ops n c
def blkS(md:Region.Mode)(ops:Array Oper)(i:Nat):List (Nat×Nat)→List Nat→List Nat
  | [],S=>S
  | (_,j)::c,S=>blkS md ops i c (match ops[j]? with
    | none=>S
    | some oj=>bif oj.after.any fun e=>Region.binds md e&&(e.on==i||S.contains e.on) then j::S else S)
def chG(md:Region.Mode)(ops:Array Oper)(n:Nat):List (Nat×Nat)→Bool
  | []=>true
  | (b,i)::c=>decide (i<n)&&!(idxs c).contains i&&(match ops[i]? with
      | none=>false
      | some o=>(o.after.all fun e=>!Region.binds md e||(decide (e.on<n)&&!(e.on==i)&&!(idxs c).contains e.on)) &&
        (bif decide (2≤b) then !Jl o&&(idxs c).all fun j=>(match ops[j]? with
            | none=>false
            | some oj=>oj.after.any fun e=>Region.binds md e&&(e.on==i||(idxs c).contains e.on))
         else jp o&&((blkS md ops i c []).all fun s=>(idxs c).contains s&&(match ops[s]? with
            | none=>false
            | some os=>os.after.any fun e=>Region.binds md e&&(e.on==i||(blkS md ops i c []).contains e.on)))&&c.all fun p=>(blkS md ops i c []).contains p.2||(match ops[p.2]? with
            | none=>false
            | some oj=>o.apart ops oj&&(zdf b p.1||zdX o))))&&chG md ops n c
theorem zeS{n:Nat}:∀{c:List (Nat×Nat)},chG md ops n c=true→ChP md ops n c
  | [],_=>trivial
  | (b,i)::c,h=>by
    unfold chG at h
    simp only[Bool.and_eq_true,decide_eq_true_eq]at h
    obtain⟨⟨⟨h1,h2⟩,h3⟩,h4⟩:=h
    refine⟨h1,by simpa using h2,?_,zeS h4⟩
    cases ho:ops[i]? with
    | none=>rw[ho]at h3;cases h3
    | some o =>
      rw[ho]at h3
      simp only[Bool.and_eq_true]at h3
      obtain⟨p,d⟩:=h3
      refine⟨o,rfl,fun u q r=>?_,fun l=>?_,fun w=>?_⟩
      · have:=Array.all_eq_true'.1 p u q
        simp[r]at this
        exact⟨this.1.1,this.1.2,this.2⟩
      · simp only[l,decide_true,cond_true,Bool.and_eq_true]at d
        refine⟨by simpa using d.1,fun g s=>?_⟩
        have:=List.all_eq_true.1 d.2 g s
        cases hoj:ops[g]? with
        | none=>rw[hoj]at this;cases this
        | some oj =>
          rw[hoj]at this
          obtain⟨v,f,e⟩:=Array.any_eq_true.1 this
          simp only[Bool.and_eq_true,Bool.or_eq_true,beq_iff_eq,List.contains_iff_mem]at e
          exact⟨oj,rfl,_,Array.getElem_mem f,e⟩
      · have m:¬2≤b:=by omega
        simp only[m,decide_false,cond_false,Bool.and_eq_true]at d
        refine⟨d.1.1,blkS md ops i c [],fun j t=>?_,fun k hp=>?_⟩
        · have:=List.all_eq_true.1 d.1.2 j t
          simp only[Bool.and_eq_true,List.contains_iff_mem]at this
          refine⟨this.1,?_⟩
          have a:=this.2
          cases hos:ops[j]? with
          | none=>rw[hos]at a;cases a
          | some os =>
            rw[hos]at a
            obtain⟨v,f,e⟩:=Array.any_eq_true.1 a
            simp only[Bool.and_eq_true,Bool.or_eq_true,beq_iff_eq,List.contains_iff_mem]at e
            exact⟨os,rfl,_,Array.getElem_mem f,e⟩
        · have:=List.all_eq_true.1 d.2 k hp
          simp only[Bool.or_eq_true,List.contains_iff_mem]at this
          refine this.imp id fun a=>?_
          cases hoj:ops[k.2]? with
          | none=>rw[hoj]at a;cases a
          | some oj =>
            rw[hoj]at a
            simp only[Bool.and_eq_true,Bool.or_eq_true]at a
            exact⟨oj,rfl,a⟩
theorem jg(p c:List (Nat×Nat)):idxs (p++c)=idxs p++idxs c:=by simp[idxs]
theorem zdK{n:Nat}{x:Nat×Nat}{f:List (Nat×Nat)}{o:Oper}(r:ops[x.2]?=some o):∀{d:List (Nat×Nat)},(∀m∈d,m.1<2)→(∀c∈o.after,Region.binds md c=true→c.on∉idxs (d++x::f))→ChP md ops n (d++x::f)→ChP md ops n (d++f)
  | [],_,_,a=>a.2.2.2
  | (b,i)::d,hq,hno,a=>by
    have e:b<2:=hq (b,i) (by simp)
    obtain⟨E,F,⟨G,y,k,_,s⟩,H⟩:=a
    have q:∀p,p∈idxs (d++f)→p∈idxs (d++x::f):=fun p t=>by
      simp only[jg,List.mem_append]at t ⊢
      exact t.imp id fun a=>by simp[idxs]at a⊢;exact .inr a
    refine⟨E,fun a=>F (q _ a),⟨G,y,fun c g e=>⟨(k c g e).1,(k c g e).2.1,fun a=>(k c g e).2.2 (q _ a)⟩,(fun a=>absurd e (by omega)),fun u=>⟨(s u).1,?_⟩⟩,
      zdK r (fun m I=>hq m (List.mem_cons_of_mem _ I)) (fun c g e J=>hno c g e (by simp only[List.cons_append,idxs,List.map_cons,List.mem_cons];exact .inr J)) H⟩
    obtain⟨w,j,K⟩:=(s u).2
    have L:x.2∉w:=fun z=>by
      obtain⟨_,O,A,c,g,e,B⟩:=j _ z
      have:=Option.some.inj (r.symm.trans A)
      subst this
      refine hno c g e ?_
      simp only[List.cons_append,idxs,List.map_cons,List.mem_cons]
      exact B.imp id fun a=>(j _ a).1
    refine⟨w,fun h l=>⟨?_,(j h l).2⟩,fun N hp=>K N (by
      rcases List.mem_append.1 hp with a|a
      · exact List.mem_append_left _ a
      · exact List.mem_append_right _ (List.mem_cons_of_mem _ a))⟩
    have M:=(j h l).1
    have D:h≠x.2:=fun c=>L (c▸l)
    have v:h∈idxs (d++x::f):=M
    show h∈idxs (d++f)
    rw[jg,List.mem_append]at v ⊢
    exact v.imp id fun a=>by
      simp only[idxs,List.map_cons,List.mem_cons]at a⊢
      exact a.resolve_left D
theorem zce{n i b m:Nat}{c:List (Nat×Nat)}{x:Nat}{e g:Oper}(z:ops[x]?=some e)(l:ops[i]?=some g)(q:(b,i)∈c)(r:∀a∈g.after,Region.binds md a=true→a.on∉x::idxs c)(d:∃f:List Nat,(∀p∈f,p∈idxs c∧∃h,ops[p]?=some h∧∃a∈h.after,Region.binds md a=true∧(a.on=x∨a.on∈f))∧∀k∈c,k.2∈f∨∃j,ops[k.2]?=some j∧e.apart ops j=true∧(zdf m k.1=true∨zdX e=true)):e.apart ops g=true∧(zdf m b=true∨zdX e=true):=by{obtain⟨f,o,v⟩:=d;rcases v _ q with d|⟨j,s,d⟩;obtain⟨_,h,t,a,w,y,u⟩:=o _ d;have:=Option.some.inj (l.symm.trans t);subst this;exact absurd (List.mem_cons.2 (u.imp id fun d=>(o _ d).1)) (r a w y);have:=Option.some.inj (l.symm.trans s);subst this;exact d}
theorem zfx{o:Oper}{a:Act}{C:World→Prop}{w1:World}{v:Value}(hp:jp o=true)(b:o.quietAt P a C w1 v):(execOp a.eval o).run P w1=.ok (.value v) w1:=by{
 unfold Oper.quietAt at b;generalize c:(execOp a.eval o).run P w1=rr at b;cases rr with
 | ok nx w' =>
  obtain⟨d,rfl⟩:=zhr hp c
  obtain⟨rfl,rfl⟩:=b
  rfl
 | halt x w'=>simp only[Oper.quietUpon]at b}
theorem JH{o:Oper}{a:Act}{C c:World→Prop}{v:Value}(hp:jp o=true)(f:∀w,c w→C w)(b:YieldsIn P ops C o v a):YieldsIn P ops c o v a:=by{rcases b with ⟨g,b⟩|b;refine .inl ⟨g,fun d e=>?_⟩;unfold Oper.quietAt;rw[zfx hp (b d (f d e))];exact⟨rfl,rfl⟩;exact .inr b}
theorem ziR{o:Oper}(a:Jl o=false):∀c,o.op≠.defer c:=by{intro c b;unfold Jl at a;rw[b]at a;cases a}
theorem zeZ{ro:Option Nat}{Q:Exit→Act→World→Prop}{j:Nat}{f:Act→World→Prop}{a:Act}{w:World}(b:wpOpIn (FR ro) 0 P ops QF j f a w):wpOpIn (FR ro) 0 P ops Q j f a w:=by{
 unfold wpOpIn at *;split;rename_i ho;simp only[ho]at b;exact b;rename_i o ho;simp only[ho]at b;split;rename_i hw;simp only[hw,if_true]at b;unfold Oper.wpIn at *;refine⟨b.1,?_⟩;have b:=b.2;generalize (o.semAt (FR ro).round a.eval).run P w=r at *;cases r with
 | ok x w' =>
  cases x <;> simp only[Oper.uponIn]at b⊢ <;>
   first
     | exact b
     | exact⟨b.1,CallsIn.mono b.2 (fun e g d=>by
         cases e with
         | returned u=>exact d
         | panicked c=>exact False.elim d
         | outgrown=>exact False.elim (by obtain⟨_,_,b⟩:=d;exact b))⟩
     | exact⟨b.1,RoundIn.mono b.2 (fun e g d=>by
         cases e with
         | returned u=>exact d
         | panicked c=>exact False.elim d
         | outgrown=>exact False.elim (by obtain⟨_,_,b⟩:=d;exact b))⟩
 | halt x w'=>cases x <;> simp only[Oper.uponIn]at b⊢ <;> exact False.elim b
 rename_i hw;simp only[hw]at b;exact b}
theorem zdm{ro:Option Nat}{j:Nat}{g h:Oper}{v:Value}(G:ops[j]?=some h)(B:Jl h=false)(D:g.apart ops h=true)(E:∀n p,g.op≠.select n p)(F:∀n p,h.op≠.select n p){C:World→Prop}{A:Act→World→Prop}{a:Act}{w:World}(i:YieldsIn P ops C g v a)(b:wpOpIn (FR ro) 0 P ops QF j A (a.put g.dst v) w):
    wpOpIn (FR ro) 0 P ops QF j (fun t o=>YieldsIn P ops C g v t∧A (t.put g.dst v) o) a w:=by{
 obtain⟨u,m,y⟩:=Oper.apart_spec D
 have keep:∀(a:Act),YieldsIn P ops C g v a→∀e,YieldsIn P ops C g v (a.put h.dst e):=fun a i e =>
  i.of_same (execOp_put g E a h.dst e y) (wanted_put g a h.dst e y)
 have z:=ziR B;unfold wpOpIn at *;simp only[G]at *;rw[wanted_put h a g.dst v u]at b;split
 ·rename_i hw
  simp only[hw,if_true]at b
  unfold Oper.wpIn at *
  refine⟨fun _ _=>trivial,?_⟩
  have b:=b.2
  rw[Oper.semAt_eq _ _ _ z,execOp_put h F a g.dst v u]at b
  rw[Oper.semAt_eq _ _ _ z]
  generalize (execOp a.eval h).run P w=r at *
  cases r with
  | ok x o =>
    cases x <;> simp only[Oper.uponIn]at b⊢
    case value e=>exact⟨keep a i e,by rw[← Act.put_comm a v e m];exact b⟩
    case skip=>exact⟨keep a i _,by rw[← Act.put_comm a v undef m];exact b⟩
    case defer d =>
      have H:YieldsIn P ops C g v { a with defers:=d::a.defers }:=i.of_same rfl rfl
      refine⟨keep _ H _,?_⟩
      rw[← Act.put_comm _ v undef m, ← Act.put_defers]
      exact b
    case enter f args =>
      refine⟨b.1,CallsIn.mono b.2 fun q s k=>?_⟩
      cases q with
      | returned e=>exact⟨keep a i e,by rw[← Act.put_comm a v e m];exact k⟩
      | panicked c=>exact False.elim k
      | outgrown=>exact k
    case row row args=>exact⟨b.1,RowsIn.mono b.2 fun e s k=>⟨keep a i e,by rw[← Act.put_comm a v e m];exact k⟩⟩
    case round l f tmps assign body =>
      refine⟨b.1,RoundIn.mono b.2 fun q s k=>?_⟩
      cases q with
      | returned e=>exact⟨keep a i e,by rw[← Act.put_comm a v e m];exact k⟩
      | panicked c=>exact False.elim k
      | outgrown=>exact k
  | halt x o =>
    cases x <;> simp only[Oper.uponIn]at b⊢
    case panic e=>exact False.elim b
 rename_i hw;simp only[hw]at b;exact⟨fun _ _=>trivial,keep a i _,by rw[← Act.put_comm a v undef m];exact b.2⟩}
theorem zhz{ro:Option Nat}{A:Nat→Prop}{T:Act→World→Prop}{n i g:Nat}(B:g<2){f:List (Nat×Nat)}{w:World}{l:Oper}(s:Region.noSelect ops=true)(j:ops[i]?=some l)(D:jp l=true):
    ∀(b:List (Nat×Nat)) (a:Act),ChP md ops n (b++(g,i)::f)→(∀y∈b,y.1<2)→(∀c∈l.after,Region.binds md c=true→c.on∉idxs (b++(g,i)::f))→chOK Dw P ops ro A T (b++(g,i)::f) a w→
      qOp P ops (fun e=>e=w) i (fun q=>chOK Dw P ops ro A T (b++f) q w) a
  | [],a,_,_,_,h=>by
    have h1:qOp P ops (fun e=>cls Dw A g w e) i (fun q=>chOK Dw P ops ro A T f q w) a:=by
      simp only[List.nil_append,chOK,if_pos B]at h
      exact h
    obtain⟨H,m,t⟩:=yieldsIn_of_qOp j h1
    exact (JH D (fun e c=>by subst c;exact zaM) m).qOp j t
  | (d,x)::b,a,hg,hq,hno,h=>by
    have k:d<2:=hq (d,x) (by simp)
    obtain⟨_,_,⟨o,p,_,_,F⟩,L⟩:=hg
    have z:o.apart ops l=true:=(zce (n:=n) (b:=g) (c:=b++(g,i)::f) p j (by simp) (fun c u k v=>hno c u k (by simpa [idxs]using v)) (F k).2).1
    have M:qOp P ops (fun e=>cls Dw A d w e) x (fun q=>chOK Dw P ops ro A T (b++(g,i)::f) q w) a:=by
      simp only[List.cons_append,chOK,if_pos k]at h
      exact h
    obtain⟨H,m,t⟩:=yieldsIn_of_qOp p M
    have N:=zhz B s j D b _ L (fun y m=>hq y (List.mem_cons_of_mem _ m)) (fun c u k v=>hno c u k (by simp only[List.cons_append,idxs,List.map_cons,List.mem_cons];exact .inr v)) t
    have I:YieldsIn P ops (fun e=>e=w) o H a:=JH (F k).1 (fun e c=>by subst c;exact zaM) m
    have O:=qOp_put j z (fun r d=>Region.noSelect_spec s x o r d p) (fun r d=>Region.noSelect_spec s i l r d j) I N
    obtain⟨G,J,K⟩:=yieldsIn_of_qOp j O
    refine J.qOp j ?_
    obtain⟨Q,R,E⟩:=Oper.apart_spec z
    show chOK Dw P ops ro A T ((d,x)::(b++f)) _ w
    simp only[chOK,if_pos k]
    refine YieldsIn.qOp p ?_ K.2
    exact m.of_same (execOp_put o (fun r d=>Region.noSelect_spec s x o r d p) a l.dst G E) (wanted_put o a l.dst G E)
theorem zdz{o:Oper}{a:Act}{C c:World→Prop}{w:World}{v:Value}(hp:jp o=true)(d:zdX o=true)(e:C w)(b:YieldsIn P ops C o v a):YieldsIn P ops c o v a:=by{rcases b with ⟨f,b⟩|b;refine .inl ⟨f,fun h g=>?_⟩;unfold Oper.quietAt;rw[zjz d (zfx hp (b w e))];exact⟨rfl,rfl⟩;exact .inr b}
theorem zhT{ro:Option Nat}{A:Nat→Prop}{T:Act→World→Prop}{n i k:Nat}(y:2≤k){e:List (Nat×Nat)}{w:World}{m:Oper}(p:Region.noSelect ops=true)(o:ops[i]?=some m)(z:Jl m=false):
    ∀(b:List (Nat×Nat)) (a:Act),ChP md ops n (b++(k,i)::e)→(∀v∈b,v.1<2)→(∀g∈m.after,Region.binds md g=true→g.on∉idxs (b++(k,i)::e))→chOK Dw P ops ro A T (b++(k,i)::e) a w→
      wpOpIn (FR ro) 0 P ops QF i (fun j f=>sw Dw A k w f∧chOK Dw P ops ro A T (b++e) j f) a w
  | [],_,_,_,_,h=>by
    simp only[List.nil_append,chOK,if_neg (show ¬k<2 by omega)]at h
    exact h
  | (d,x)::b,a,hg,hq,hno,h=>by
    have c:d<2:=hq (d,x) (by simp)
    obtain⟨_,_,⟨G,l,_,_,q⟩,H⟩:=hg
    obtain⟨F,E⟩:=zce (n:=n) (b:=k) (c:=b++(k,i)::e) l o (by simp) (fun g r c s=>hno g r c (by simpa [idxs]using s)) (q c).2
    have I:qOp P ops (fun f=>cls Dw A d w f) x (fun j=>chOK Dw P ops ro A T (b++(k,i)::e) j w) a:=by
      simp only[List.cons_append,chOK,if_pos c]at h
      exact h
    obtain⟨S,t,J⟩:=yieldsIn_of_qOp l I
    have K:=zhT y p o z b _ H (fun v t=>hq v (List.mem_cons_of_mem _ t)) (fun g r c s=>hno g r c (by simp only[List.cons_append,idxs,List.map_cons,List.mem_cons];exact .inr s)) J
    have L:=zdm o z F (fun u d=>Region.noSelect_spec p x G u d l) (fun u d=>Region.noSelect_spec p i m u d o) t K
    refine wpOpIn_mono (fun j f ⟨B,D,M⟩=>⟨D,?_⟩) L
    show chOK Dw P ops ro A T ((d,x)::(b++e)) j f
    simp only[chOK,if_pos c]
    refine YieldsIn.qOp l ?_ M
    rcases E with N|O
    · exact JH (q c).1 (fun R Q=>zfN c y N D Q) B
    · exact zdz (q c).1 O zaM B
theorem zhw{n i:Nat}:∀(c:List (Nat×Nat)),ChP md ops n c→i∈idxs c→(∃o,ops[i]?=some o∧∀a∈o.after,Region.binds md a=true→a.on∉idxs c)→
    ∃d b e,c=d++(b,i)::e∧∀j∈d,j.1<2
  | [],_,hi,_=>by simp[idxs]at hi
  | (b,x)::c,hg,hi,⟨o,ho,hdep⟩=>by
    by_cases hx:x=i
    · subst hx
      exact⟨[],b,c,rfl,by simp⟩
    · have hi':i∈idxs c:=by
        simp only[idxs,List.map_cons,List.mem_cons]at hi
        exact hi.resolve_left fun a=>hx a.symm
      obtain⟨_,_,⟨w,v,_,p,_⟩,q⟩:=hg
      have r:b<2:=by
        rcases Nat.lt_or_ge b 2 with k|k
        · exact k
        · obtain⟨y,l,a,g,f,m⟩:=(p k).2 i hi'
          have:=Option.some.inj (ho.symm.trans l)
          subst this
          exact absurd (by simp only[idxs,List.map_cons,List.mem_cons];exact m) (hdep a g f)
      obtain⟨d,t,e,rfl,u⟩:=zhw c q hi' ⟨o,ho,fun a g f s=>hdep a g f (by simp only[idxs,List.map_cons,List.mem_cons];exact .inr s)⟩
      exact⟨(b,x)::d,t,e,rfl,fun j h=>by
        rcases List.mem_cons.1 h with rfl|h
        · exact r
        · exact u j h⟩
theorem zhx{ro:Option Nat}{Q:Exit→Act→World→Prop}{i:Nat}{c:Oper}{w:World}{g:Act→Prop}{d:Act→World→Prop}{a:Act}(h:ops[i]?=some c)(hp:jp c=true)(b:qOp P ops (fun j=>j=w) i g a)(e:∀f,g f→d f w):wpOpIn (FR ro) 0 P ops Q i d a w:=by{unfold qOp at b;unfold wpOpIn;simp only[h]at b⊢;split;rename_i hw;rw[if_pos hw]at b;obtain⟨n,k,l⟩:=b;have m:=zfx hp (k w rfl);refine⟨fun _ _=>trivial,?_⟩;rw[jA m (fun o b=>by cases b),Oper.uponIn_value];exact e _ l;rename_i hw;rw[if_neg hw]at b;exact⟨fun _ _=>trivial,e _ b⟩}
theorem zcH{ro:Option Nat}{A:Nat→Prop}{n:Nat}{Q:Exit→Act→World→Prop}{T:Act→World→Prop}(M:Region.noSelect ops=true)(b8:n≤ops.size)(b1:n<ops.size→Region.sinkB md ops n=true∧Region.chainB md ops n=true)(U:∀listed:Array Bool,listed.size=ops.size→(∀i,i<n→listed.getD i false=true)→(∀i,n≤i→listed.getD i false=false)→Region.seqB md ops (ops.size-n) n listed=true)(b2:∀a w,T a w→wpListIn (FR ro) 0 P ops Q (ops.toList.drop n) a w):
    ∀(q:Nat) (c:List (Nat×Nat)) (listed:Array Bool) (a:Act) (w:World),c.length=q→ChP md ops n c→(∀i,i<n→(listed.getD i false=false↔i∈idxs c))→HeadInv md ops n listed→
      chOK Dw P ops ro A T c a w→wpAnyIn (FR ro) 0 P md ops Q (q+(ops.size-n)) listed a w:=by{
 intro q;induction q with
 | zero =>
  intro c listed a w G j u h d
  have a4:c=[]:=List.eq_nil_of_length_eq_zero G
  subst a4
  have X:∀i,i<n→listed.getD i false=true:=fun i f=>by
   cases hv:listed.getD i false with
   | true=>rfl
   | false=>have:=(u i f).1 hv;simp[idxs]at this
  have Z:=U listed h.size X (fun i f=>by
   rcases Nat.lt_or_ge i ops.size with d|d
   exact getD_both (h.tail i f d)
   simp[Array.getElem?_eq_none (show listed.size≤i by rw[h.size];exact d)])
  rw[Nat.zero_add]
  have:=zcg (F:=FR ro) (md:=md) (Q':=Q) (ops.toList.drop n) n listed a w (fun t=>by simp[List.getElem?_drop]) (by simpa using Z) (b2 a w d)
  simpa using this
 | succ q ih =>
  intro c listed a w G j u h d
  have R:∀i,i∈idxs c→i<n→listed.getD i true=false:=fun i f E=>getD_in (by rw[h.size];omega) ((u i E).2 f)
  have W:∀i,i<n→i∉idxs c→listed.getD i false=true:=fun i f b3=>by
   cases hv:listed.getD i false with
   | true=>rfl
   | false=>exact absurd ((u i f).1 hv) b3
  obtain⟨x,S,H⟩:∃x,x<n∧x∈idxs c∧x∈Region.ready md ops listed:=by
   cases c with
   | nil=>simp at G
   | cons p c =>
    obtain⟨v,i⟩:=p
    obtain⟨k,y,⟨o,l,b4,_⟩,_⟩:=j
    refine⟨i,k,by simp[idxs],mem_ready.2 ⟨R i (by simp[idxs]) k,o,l,fun g K m=>?_⟩⟩
    obtain⟨B,D,b5⟩:=b4 g K m
    refine W _ B ?_
    simp only[idxs,List.map_cons,List.mem_cons,not_or]
    exact⟨D,b5⟩
  rw[show q+1+(ops.size-n)=(q+(ops.size-n))+1 by omega]
  refine⟨(by intro d;rw[d]at H;exact absurd H.2 (by simp)),fun i f=>?_⟩
  have N:i<n:=by
   rcases Nat.lt_or_ge i n with e|e
   exact e
   obtain⟨_,o,l,_⟩:=mem_ready.1 f
   have E:i<ops.size:=(Array.getElem?_eq_some_iff.1 l).1
   obtain⟨B,D⟩:=b1 (by omega)
   exact absurd f (tail_waits B D (by omega) h _ x rfl S (R x H.1 S) i e)
  obtain⟨a5,o,l,a0⟩:=mem_ready.1 f
  have a6:i∈idxs c:=(u i N).1 (getD_both a5)
  have F:∀g∈o.after,Region.binds md g=true→g.on∉idxs c:=fun g K m b6=>by
   have k:=a0 g K m
   have E:g.on<n:=by
    rcases Nat.lt_or_ge g.on n with e|e
    exact e
    rcases Nat.lt_or_ge g.on ops.size with y|y
    rw[getD_both (h.tail _ e y)]at k;cases k
    simp[Array.getElem?_eq_none (show listed.size≤g.on by rw[h.size];exact y)]at k
   rw[(u _ E).2 b6]at k
   cases k
  obtain⟨b,v,r,rfl,L⟩:=zhw c j a6 ⟨o,l,F⟩
  have a7:=zdK (x:=(v,i)) l L F j
  have a8:i∉idxs (b++r):=by
   have a9:∀(b:List (Nat×Nat)),ChP md ops n (b++(v,i)::r)→i∉idxs (b++r):=by
    intro b
    induction b with
    | nil=>exact fun d=>d.2.1
    | cons p b ihp =>
     obtain⟨b9,c1⟩:=p
     intro d
     have k:=ihp d.2.2.2
     have y:=d.2.1
     simp only[List.cons_append,idxs,List.map_cons,List.mem_cons,not_or]
     refine⟨fun g=>y (by subst g;simp[idxs]),k⟩
   exact a9 b j
  have a1:(b++r).length=q:=by simp at G ⊢;omega
  have a2:∀t,t<n→((listed.setIfInBounds i true).getD t false=false↔t∈idxs (b++r)):=fun t b7=>by
   by_cases I:t=i
   subst I
   have a3:t<listed.size:=by rw[h.size];omega
   simp only[a8,iff_false]
   simp[a3]
   rw[getD_set_ne false (Ne.symm I),u t b7]
   simp only[jg,List.mem_append]
   simp[idxs,I]
  have O:∀s z,chOK Dw P ops ro A T (b++r) s z→wpAnyIn (FR ro) 0 P md ops Q (q+(ops.size-n)) (listed.setIfInBounds i true) s z :=
   fun s z e=>ih (b++r) _ s z a1 a7 a2 (h.set f N) e
  have J:∀(b:List (Nat×Nat)),ChP md ops n (b++(v,i)::r)→(2≤v→Jl o=false)∧(v<2→jp o=true):=by
   intro b
   induction b with
   | nil =>
    rintro⟨_,_,⟨c0,b0,_,B,D⟩,_⟩
    have:=Option.some.inj (l.symm.trans b0)
    subst this
    exact⟨fun d=>(B d).1,fun d=>(D d).1⟩
   | cons p b ihp=>exact fun d=>ihp d.2.2.2
  rcases Nat.lt_or_ge v 2 with m|m
  · exact zhx l ((J b j).2 m) (zhz m M l ((J b j).2 m) b a j L F d) fun s e=>O s w e
  · exact wpOpIn_mono (fun s z ⟨_,e⟩=>O s z e) (zeZ (zhT m M l ((J b j).1 m) b a j L F d))}
def chB(md:Region.Mode)(ops:Array Oper)(n:Nat)(c:List (Nat×Nat)):Bool :=
  Region.noSelect ops&&decide (n≤ops.size)&&decide (c.length=n)&&(decide (ops.size≤n)||(Region.sinkB md ops n&&Region.chainB md ops n))&&chG md ops n c&&((List.range n).all fun i=>(idxs c).contains i) &&
    Region.seqB md ops (ops.size-n) n ((List.range ops.size).map fun i=>decide (i<n)).toArray
def CH(Dw:Prop)(P:Program)(nn:Fr)(ops:Array Oper)(A:Nat→Prop)(T:Act→World→Prop)(c:List (Nat×Nat))(E:Env)(w:World):Prop:=∀a,Has nn a E→chOK Dw P ops nn.ro A T c a w
end
section
variable{P:Program}{nn:Fr}{Q:Exit→Act→World→Prop}{A:Nat→Prop}{T:Act→World→Prop}{E:Env}{w w0:World}{l tl r:List Oper}{o:Oper}{c:List (Nat×Nat)}{i n id:Nat}
theorem Zp(A:Nat→Prop)(n:Nat)(c:List (Nat×Nat))(o:P.follows .mixedOrders=true)(hB:chB .any l.toArray n c=true)(f:∀w1,Kp Dw w w1→CH Dw P nn l.toArray A (fun d e=>wpListIn (FR nn.ro) 0 P l.toArray Q (l.drop n) d e) c E w1):C P nn (.region id l.toArray true) Q E w:=by{
 intro j p;refine wpIn_region_any o ?_;simp only[chB,Bool.and_eq_true,decide_eq_true_eq,Bool.or_eq_true]at hB;obtain⟨⟨⟨⟨⟨⟨q,r⟩,s⟩,t⟩,u⟩,v⟩,x⟩:=hB
 have g:=zcH (ro:=nn.ro) (A:=A) (md := .any) (P:=P) (ops:=l.toArray) (Q:=Q) (n:=n) (T:=fun d e=>wpListIn (FR nn.ro) 0 P l.toArray Q (l.drop n) d e) q r (fun H=>t.resolve_left (by omega)) (fun b k y z=>by
  have G:b=((List.range l.toArray.size).map fun i=>decide (i<n)).toArray:=by
    apply Array.ext
    · rw[k];simp
    · intro i m I
      have B:b.getD i false=b[i]:=by simp[m]
      rw[← B]
      rcases Nat.lt_or_ge i n with a|a
      · rw[y i a];simp[a]
      · rw[z i a];simp;omega
  rw[G]
  exact x) (fun _ _ f=>by simpa using f) c.length c (Array.replicate l.toArray.size false) j { w with drawn:=w.drawn+1 } rfl (zeS u) (fun i D=>by
    rw[getD_replicate_false]
    have:=List.all_eq_true.1 v i (List.mem_range.2 D)
    simpa using this)
  ⟨by simp,fun K J _ h=>(by rw[getD_replicate_false]at h;cases h),fun L _ F=>getD_in (by simpa using F) (getD_replicate_false _ _)⟩
  (f _ (Kp.drew (Dw:=Dw) _) j p)
 rw[s,show n+(l.toArray.size-n)=l.toArray.size by omega]at g;exact g}
theorem zci{o:Oper}{r:List Oper}(a:l.drop i=o::r):l.toArray[i]?=some o:=by{have:=congrArg (fun l=>l[0]?) a;simpa using this}
theorem ZX(d:l.drop i=o::r)(g:VQ P nn l.toArray (fun a=>Kp Dw w a) (fun e=>chOK Dw P l.toArray nn.ro A T c e w) [o] E):CH Dw P nn l.toArray A T ((0,i)::c) E w:=by{intro b f;simp only[chOK,if_pos (show 0<2 by decide)];show qOp P l.toArray (fun a=>Kp Dw w a) i _ b;unfold qOp;simp only[zci d];exact g b f}
theorem zj(d:l.drop i=o::r)(g:VQ P nn l.toArray (fun a=>XA A w a) (fun e=>chOK Dw P l.toArray nn.ro A T c e w) [o] E):CH Dw P nn l.toArray A T ((1,i)::c) E w:=by{intro b f;simp only[chOK,if_pos (show 1<2 by decide)];show qOp P l.toArray (fun a=>XA A w a) i _ b;unfold qOp;simp only[zci d];exact g b f}
theorem zi{W:World→Prop}(d:CH Dw P nn l.toArray A T c E w):VQ P nn l.toArray W (fun a=>chOK Dw P l.toArray nn.ro A T c a w) [] E:=fun e b=>wpQuiet_nil (d e b)
theorem zM(j:l.drop i=o::r){k:Nat}(d:V P nn l.toArray (Exit.then (fun m e=>sw Dw A (k+2) w e∧chOK Dw P l.toArray nn.ro A T c m e) QF) [o] E w):CH Dw P nn l.toArray A T ((k+2,i)::c) E w:=by{
 intro f n;simp only[chOK,if_neg (show ¬k+2<2 by omega)];show wpOpIn _ 0 P l.toArray QF i _ f w;have a:=d f n;unfold wpListIn at a;unfold wpOpIn;simp only[zci j];split;rename_i hw;rw[if_pos hw]at a;refine⟨a.1,?_⟩;have a:=a.2;generalize (o.semAt (FR nn.ro).round f.eval).run P w=r at *;cases r with
 | ok x e =>
  cases x <;> simp only[Oper.uponIn]at a ⊢ <;>
   first
     | exact a
     | exact⟨a.1,CallsIn.mono a.2 (fun g h b=>by
         cases g with
         | returned u=>exact b
         | panicked c=>exact False.elim b
         | outgrown=>exact False.elim (by obtain⟨_,_,d⟩:=b;exact d))⟩
     | exact⟨a.1,RoundIn.mono a.2 (fun g h b=>by
         cases g with
         | returned u=>exact b
         | panicked c=>exact False.elim b
         | outgrown=>exact False.elim (by obtain⟨_,_,d⟩:=b;exact d))⟩
 | halt x e=>cases x <;> simp only[Oper.uponIn]at a ⊢ <;> exact False.elim a
 rename_i hw;rw[if_neg hw]at a;exact a}
theorem V_CH(d:Kp Dw w0 w)(a:CH Dw P nn l.toArray A T c E w):V P nn l.toArray (Exit.then (fun e b=>sw Dw A (0+2) w0 b∧chOK Dw P l.toArray nn.ro A T c e b) QF) [] E w:=fun g f=>wpListIn_nil ⟨⟨fun _=>d,fun a=>absurd a (by decide)⟩,a g f⟩
theorem qG(d:XA A w0 w)(a:CH Dw P nn l.toArray A T c E w):V P nn l.toArray (Exit.then (fun e b=>sw Dw A (1+2) w0 b∧chOK Dw P l.toArray nn.ro A T c e b) QF) [] E w:=fun g f=>wpListIn_nil ⟨⟨fun a=>absurd a (by decide),fun _=>d⟩,a g f⟩
theorem ZM(a:CH Dw P nn l.toArray A T c E w):V P nn l.toArray (Exit.then (fun d b=>sw Dw A (2+2) w0 b∧chOK Dw P l.toArray nn.ro A T c d b) QF) [] E w:=fun f e=>wpListIn_nil ⟨⟨fun a=>absurd a (by decide),fun a=>absurd a (by decide)⟩,a f e⟩
theorem ZF(c:V P nn l.toArray Q tl E w):CH Dw P nn l.toArray A (fun a b=>wpListIn (FR nn.ro) 0 P l.toArray Q tl a b) [] E w:=c
end
section
variable{B:Nat}{A A1:Nat→Prop}{w w1:World}{L M:List Ob}
theorem Hp.join(j:Hp B A w L)(hB:B≤w.heap.size)(t:Tr Dw w.heap.size A w A1 w1)(m:Hp w.heap.size A1 w1 M):Hp B A1 w1 (M++L):=by{obtain⟨g,k,c⟩:=j;obtain⟨U2,h,e⟩:=m;refine⟨U2++g,Sp.append.2 ⟨U2,g,rfl,fun a d i=>?_,h,k.keep t.ex fun a d=>t.below.block a (c a d).2.1⟩,fun a d=>?_⟩;have:=(e a d).1;have:=(c a i).2.1;omega;rcases List.mem_append.1 d with b|b;exact⟨Nat.le_trans hB (e a b).1,(e a b).2⟩;refine⟨(c a b).1,Nat.lt_of_lt_of_le (c a b).2.1 t.ex.size,fun l=>?_⟩;rcases t.sub a l with f|f;exact (c a b).2.2 f;have:=(c a b).2.1;omega}
end
end Go.Gw
