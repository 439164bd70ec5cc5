import Derived.Test.YtligccioljhapaaGreatDoorGd
namespace Go.Gw
open Go Go.RowKit Go.Pu
variable{Dw:Prop}
set_option linter.unusedSimpArgs false
set_option linter.unusedVariables false
def Ju(o:Oper):Bool:=match o.op with
  | .load .. | .fieldAddr .. | .move _ | .assign _ | .binOp .. | .unOp .. | .extract .. | .field .. | .indexAddr .. | .index .. | .convert .. | .slice .. | .build .. | .makeFunc .. | .makeInterface .. | .nilCheck _ | .pick .. | .lookup .. => true
  | .call ⟨.builtin .len,_,_⟩ | .call ⟨.builtin .min,_,_⟩ | .call ⟨.builtin .max,_,_⟩=>true
  | _=>false
theorem ziY{r:Operand→Value}{o:Oper}{P:Program}{w w':World}{h:Next}(e:Ju o=true)(d:(execOp r o).run P w=.ok h w'):∃j,h=.value j:=by{
 obtain⟨p,g,u,q,v,z⟩:=o;unfold Ju at e;cases g with
 | move x=>simp only[execOp]at d;simp at d;exact⟨_,d.1.symm⟩
 | assign x=>simp only[execOp]at d;simp at d;exact⟨_,d.1.symm⟩
 | load t a=>exact Zi d
 | fieldAddr t a i=>exact Zi d
 | unOp g t x=>exact Zi d
 | extract x i=>exact Zi d
 | field t x i=>exact Zi d
 | binOp g t x y t2=>exact Zi d
 | indexAddr t x i=>exact Zi d
 | index t x i=>exact Zi d
 | convert a b x=>exact Zi d
 | slice t x lo hi mx=>exact Zi d
 | build t ps=>exact Zi d
 | lookup t x k c=>exact Zi d
 | makeFunc f a b=>exact Zi d
 | makeInterface t x=>exact Zi d
 | pick c x y =>
  simp only[execOp,Sem.run_bind]at d
  cases hs:(asBool (r c)).run P w with
  | ok j w1=>rw[hs]at d;simp[Result.andThen]at d;exact⟨_,d.1.symm⟩
  | halt x w1=>rw[hs]at d;simp[Result.andThen]at d
 | nilCheck x =>
  simp only[execOp]at d
  split at d
  simp[runtimePanic]at d
  simp[runtimePanic]at d
  simp[runtimePanic]at d
  split at d
  simp[runtimePanic]at d
  simp[Result.andThen]at d
  split at d
  split at d
  simp at d;exact⟨_,d.1.symm⟩
  cases d
  cases d
  simp at d;exact⟨_,d.1.symm⟩
  simp at d;exact⟨_,d.1.symm⟩
 | call c =>
  obtain⟨l,n,s⟩:=c
  cases l with
  | builtin b =>
   cases b <;> simp only[Bool.false_eq_true]at e <;> (simp only[execOp,resolve,invoke,builtin,pure_bind]at d;exact Zi d)
  | value f=>simp at e
  | invoke x m=>simp at e
 | _=>simp at e}
def zax(o:Oper):Bool:=match o.op with
  | .defer _=>true
  | _=>false
def QF:Exit→Act→World→Prop:=fun _ _ _=>False
section
variable{P:Program}{ops:Array Oper}{md:Region.Mode}
def zff(o:Oper):Bool:=match o.op with
  | .move _ | .assign _ | .extract .. => true
  | _=>false
theorem zmF{r:Operand→Value}{o:Oper}{P:Program}{w w1:World}{v:Value}(b:zff o=true)(a:(execOp r o).run P w=.ok (.value v) w):(execOp r o).run P w1=.ok (.value v) w1:=by{
 obtain⟨d,c,f,e,g,h⟩:=o;unfold zff at b;cases c with
 | move x=>simp only[execOp]at a⊢;simp at a⊢;exact a
 | assign x=>simp only[execOp]at a⊢;simp at a⊢;exact a
 | extract x ix =>
  simp only[execOp,Instr.extract]at a⊢
  cases hu:r x with
  | tuple vs =>
   rw[hu]at a
   cases hv:vs[ix]? with
   | none=>simp[hv,stuck,Sem.run]at a
   | some u=>simp[hv]at a⊢;exact a
  | _=>rw[hu]at a;simp[stuck,Sem.run]at a
 | _=>simp at b}
def XA(A:Nat→Prop)(w w':World):Prop:=w.heap.size≤w'.heap.size∧∀k,k<w.heap.size→A k→w'.heap[k]?=w.heap[k]?
theorem XA.ex{A:Nat→Prop}{w w':World}(b:XA A w w'):Ex A w A w':=⟨b.1,fun k c a=>⟨a,b.2 k c a⟩⟩
theorem XA.trans{A:Nat→Prop}{w w1 b:World}(a:XA A w w1)(k:XA A w1 b):XA A w b:=⟨Nat.le_trans a.1 k.1,fun e c d=>(k.2 e (Nat.lt_of_lt_of_le c a.1) d).trans (a.2 e c d)⟩
theorem XA.kp{A:Nat→Prop}{w w1:World}(a:Kp Dw w w1):XA A w w1:=⟨a.size,fun c b _=>a.block c b⟩
theorem XA.tr{B:Nat}{A A1:Nat→Prop}{w w1:World}(a:Tr Dw B A w A1 w1):XA A w w1:=⟨a.ex.size,fun d b c=>(a.ex.block d b c).2⟩
theorem XA.less{A A1:Nat→Prop}{w w1:World}(b:XA A1 w w1)(d:∀k,k<w.heap.size→A k→A1 k):XA A w w1:=⟨b.1,fun c a e=>b.2 c a (d c a e)⟩
def cls(Dw:Prop)(A:Nat→Prop)(b:Nat)(w w':World):Prop:=if b=0 then Kp Dw w w' else XA A w w'
theorem zcr{A:Nat→Prop}{b:Nat}{w:World}:cls Dw A b w w:=by unfold cls;split;exact Kp.refl w;exact XA.kp (Kp.refl (Dw:=Dw) w)
def sw(Dw:Prop)(A:Nat→Prop)(b:Nat)(w w':World):Prop:=(b=2→Kp Dw w w')∧(b=3→XA A w w')
def zdW(b k:Nat):Bool:=decide (k≤2)||(b==1&&k==3)
theorem zjD{A:Nat→Prop}{b k:Nat}{w w1 e:World}(g:b<2)(h:2≤k)(d:zdW b k=true)(f:sw Dw A k w w1)(a:cls Dw A b w1 e):cls Dw A b w e:=by{simp only[zdW,Bool.or_eq_true,decide_eq_true_eq,Bool.and_eq_true,beq_iff_eq]at d;rcases d with d|⟨rfl,rfl⟩;have c:=f.1 (by omega);unfold cls at a⊢;split;rename_i h0;rw[if_pos h0]at a;exact Kp.trans c a;rename_i h0;rw[if_neg h0]at a;exact XA.trans (XA.kp c) a;have c:=f.2 rfl;unfold cls at a⊢;rw[if_neg (by decide)]at a⊢;exact XA.trans c a}
def chOK(Dw:Prop)(P:Program)(ops:Array Oper)(ro:Option Nat)(A:Nat→Prop)(T:Act→World→Prop):List (Nat×Nat)→Act→World→Prop
  | [],a,w=>T a w
  | (b,i)::c,a,w=>if b<2 then qOp P ops (fun w'=>cls Dw A b w w') i (fun a'=>chOK Dw P ops ro A T c a' w) a else wpOpIn (FR ro) 0 P ops QF i (fun a' w'=>sw Dw A b w w'∧chOK Dw P ops ro A T c a' w') a w
def idxs(c:List (Nat×Nat)):List Nat:=c.map (·.2)
def ChP(md:Region.Mode)(ops:Array Oper)(n:Nat):List (Nat×Nat)→Prop
  | []=>True
  | (b,i)::c=>i<n∧i∉idxs c∧(∃o,ops[i]?=some o∧(∀e∈o.after,Region.binds md e=true→e.on<n∧e.on≠i∧e.on∉idxs c)∧
      (2≤b→zax o=false∧∀j∈idxs c,∃oj,ops[j]?=some oj∧∃e∈oj.after,Region.binds md e=true∧(e.on=i∨e.on∈idxs c))∧
      (b<2→Ju o=true∧∃S:List Nat,(∀s∈S,s∈idxs c∧∃os,ops[s]?=some os∧∃e∈os.after,Region.binds md e=true∧(e.on=i∨e.on∈S))∧∀p∈c,p.2∈S∨∃oj,ops[p.2]?=some oj∧o.apart ops oj=true∧(zdW b p.1=true∨zff o=true)))∧ChP md ops n c
def blkS(md:Region.Mode)(ops:Array Oper)(i:Nat):List (Nat×Nat)→List Nat→List Nat
  | [],S=>S
  | (_,j)::c,S=>blkS md ops i c (match ops[j]? with
    | none=>S
    | some oj=>bif oj.after.any fun e=>Region.binds md e&&(e.on==i||S.contains e.on) then j::S else S)
def chG(md:Region.Mode)(ops:Array Oper)(n:Nat):List (Nat×Nat)→Bool
  | []=>true
  | (b,i)::c=>decide (i<n)&&!(idxs c).contains i&&(match ops[i]? with
      | none=>false
      | some o=>(o.after.all fun e=>!Region.binds md e||(decide (e.on<n)&&!(e.on==i)&&!(idxs c).contains e.on)) &&
        (bif decide (2≤b) then !zax o&&(idxs c).all fun j=>(match ops[j]? with
            | none=>false
            | some oj=>oj.after.any fun e=>Region.binds md e&&(e.on==i||(idxs c).contains e.on))
         else Ju o&&((blkS md ops i c []).all fun s=>(idxs c).contains s&&(match ops[s]? with
            | none=>false
            | some os=>os.after.any fun e=>Region.binds md e&&(e.on==i||(blkS md ops i c []).contains e.on)))&&c.all fun p=>(blkS md ops i c []).contains p.2||(match ops[p.2]? with
            | none=>false
            | some oj=>o.apart ops oj&&(zdW b p.1||zff o))))&&chG md ops n c
theorem zjA{n:Nat}:∀{c:List (Nat×Nat)},chG md ops n c=true→ChP md ops n c
  | [],_=>trivial
  | (b,i)::c,h=>by
    unfold chG at h
    simp only[Bool.and_eq_true,decide_eq_true_eq]at h
    obtain⟨⟨⟨h1,h2⟩,h3⟩,h4⟩:=h
    refine⟨h1,by simpa using h2,?_,zjA h4⟩
    cases ho:ops[i]? with
    | none=>rw[ho]at h3;cases h3
    | some o =>
      rw[ho]at h3
      simp only[Bool.and_eq_true]at h3
      obtain⟨q,d⟩:=h3
      refine⟨o,rfl,fun v r s=>?_,fun m=>?_,fun x=>?_⟩
      · have:=Array.all_eq_true'.1 q v r
        simp[s]at this
        exact⟨this.1.1,this.1.2,this.2⟩
      · simp only[m,decide_true,cond_true,Bool.and_eq_true]at d
        refine⟨by simpa using d.1,fun g t=>?_⟩
        have:=List.all_eq_true.1 d.2 g t
        cases hoj:ops[g]? with
        | none=>rw[hoj]at this;cases this
        | some oj =>
          rw[hoj]at this
          obtain⟨w,f,e⟩:=Array.any_eq_true.1 this
          simp only[Bool.and_eq_true,Bool.or_eq_true,beq_iff_eq,List.contains_iff_mem]at e
          exact⟨oj,rfl,_,Array.getElem_mem f,e⟩
      · have p:¬2≤b:=by omega
        simp only[p,decide_false,cond_false,Bool.and_eq_true]at d
        refine⟨d.1.1,blkS md ops i c [],fun j u=>?_,fun l hp=>?_⟩
        · have:=List.all_eq_true.1 d.1.2 j u
          simp only[Bool.and_eq_true,List.contains_iff_mem]at this
          refine⟨this.1,?_⟩
          have a:=this.2
          cases hos:ops[j]? with
          | none=>rw[hos]at a;cases a
          | some os =>
            rw[hos]at a
            obtain⟨w,f,e⟩:=Array.any_eq_true.1 a
            simp only[Bool.and_eq_true,Bool.or_eq_true,beq_iff_eq,List.contains_iff_mem]at e
            exact⟨os,rfl,_,Array.getElem_mem f,e⟩
        · have:=List.all_eq_true.1 d.2 l hp
          simp only[Bool.or_eq_true,List.contains_iff_mem]at this
          refine this.imp id fun a=>?_
          cases hoj:ops[l.2]? with
          | none=>rw[hoj]at a;cases a
          | some oj =>
            rw[hoj]at a
            simp only[Bool.and_eq_true,Bool.or_eq_true]at a
            exact⟨oj,rfl,a⟩
theorem zbV(p c:List (Nat×Nat)):idxs (p++c)=idxs p++idxs c:=by simp[idxs]
theorem zhD{n:Nat}{x:Nat×Nat}{f:List (Nat×Nat)}{o:Oper}(s:ops[x.2]?=some o):∀{d:List (Nat×Nat)},(∀p∈d,p.1<2)→(∀c∈o.after,Region.binds md c=true→c.on∉idxs (d++x::f))→ChP md ops n (d++x::f)→ChP md ops n (d++f)
  | [],_,_,a=>a.2.2.2
  | (b,i)::d,hq,hno,a=>by
    have e:b<2:=hq (b,i) (by simp)
    obtain⟨F,G,⟨H,z,l,_,t⟩,I⟩:=a
    have r:∀q,q∈idxs (d++f)→q∈idxs (d++x::f):=fun q u=>by
      simp only[zbV,List.mem_append]at u ⊢
      exact u.imp id fun a=>by simp[idxs]at a⊢;exact .inr a
    refine⟨F,fun a=>G (r _ a),⟨H,z,fun c g e=>⟨(l c g e).1,(l c g e).2.1,fun a=>(l c g e).2.2 (r _ a)⟩,(fun a=>absurd e (by omega)),fun v=>⟨(t v).1,?_⟩⟩,
      zhD s (fun p J=>hq p (List.mem_cons_of_mem _ J)) (fun c g e K=>hno c g e (by simp only[List.cons_append,idxs,List.map_cons,List.mem_cons];exact .inr K)) I⟩
    obtain⟨y,j,L⟩:=(t v).2
    have M:x.2∉y:=fun A=>by
      obtain⟨_,P,B,c,g,e,D⟩:=j _ A
      have:=Option.some.inj (s.symm.trans B)
      subst this
      refine hno c g e ?_
      simp only[List.cons_append,idxs,List.map_cons,List.mem_cons]
      exact D.imp id fun a=>(j _ a).1
    refine⟨y,fun h m=>⟨?_,(j h m).2⟩,fun O hp=>L O (by
      rcases List.mem_append.1 hp with a|a
      · exact List.mem_append_left _ a
      · exact List.mem_append_right _ (List.mem_cons_of_mem _ a))⟩
    have N:=(j h m).1
    have E:h≠x.2:=fun c=>M (c▸m)
    have w:h∈idxs (d++x::f):=N
    show h∈idxs (d++f)
    rw[zbV,List.mem_append]at w ⊢
    exact w.imp id fun a=>by
      simp only[idxs,List.map_cons,List.mem_cons]at a⊢
      exact a.resolve_left E
theorem zeM{n i b o:Nat}{c:List (Nat×Nat)}{x:Nat}{e g:Oper}(A:ops[x]?=some e)(m:ops[i]?=some g)(r:(b,i)∈c)(s:∀a∈g.after,Region.binds md a=true→a.on∉x::idxs c)(d:∃f:List Nat,(∀q∈f,q∈idxs c∧∃h,ops[q]?=some h∧∃a∈h.after,Region.binds md a=true∧(a.on=x∨a.on∈f))∧∀l∈c,l.2∈f∨∃j,ops[l.2]?=some j∧e.apart ops j=true∧(zdW o l.1=true∨zff e=true)):e.apart ops g=true∧(zdW o b=true∨zff e=true):=by{obtain⟨f,p,w⟩:=d;rcases w _ r with d|⟨j,t,d⟩;obtain⟨_,h,u,a,y,z,v⟩:=p _ d;have:=Option.some.inj (m.symm.trans u);subst this;exact absurd (List.mem_cons.2 (v.imp id fun d=>(p _ d).1)) (s a y z);have:=Option.some.inj (m.symm.trans t);subst this;exact d}
theorem zgX{o:Oper}{a:Act}{C:World→Prop}{w1:World}{v:Value}(hp:Ju o=true)(b:o.quietAt P a C w1 v):(execOp a.eval o).run P w1=.ok (.value v) w1:=by{
 unfold Oper.quietAt at b;generalize c:(execOp a.eval o).run P w1=rr at b;cases rr with
 | ok nx w' =>
  obtain⟨d,rfl⟩:=ziY hp c
  obtain⟨rfl,rfl⟩:=b
  rfl
 | halt x w'=>simp only[Oper.quietUpon]at b}
theorem zbs{o:Oper}{a:Act}{C c:World→Prop}{v:Value}(hp:Ju o=true)(f:∀w,c w→C w)(b:YieldsIn P ops C o v a):YieldsIn P ops c o v a:=by{rcases b with ⟨g,b⟩|b;refine .inl ⟨g,fun d e=>?_⟩;unfold Oper.quietAt;rw[zgX hp (b d (f d e))];exact⟨rfl,rfl⟩;exact .inr b}
theorem zlk{o:Oper}(a:zax o=false):∀c,o.op≠.defer c:=by{intro c b;unfold zax at a;rw[b]at a;cases a}
theorem ziF{ro:Option Nat}{Q:Exit→Act→World→Prop}{j:Nat}{f:Act→World→Prop}{a:Act}{w:World}(b:wpOpIn (FR ro) 0 P ops QF j f a w):wpOpIn (FR ro) 0 P ops Q j f a w:=by{
 unfold wpOpIn at *;split;rename_i ho;simp only[ho]at b;exact b;rename_i o ho;simp only[ho]at b;split;rename_i hw;simp only[hw,if_true]at b;unfold Oper.wpIn at *;refine⟨b.1,?_⟩;have b:=b.2;generalize (o.semAt (FR ro).round a.eval).run P w=r at *;cases r with
 | ok x w' =>
  cases x <;> simp only[Oper.uponIn]at b⊢ <;>
   first
     | exact b
     | exact⟨b.1,CallsIn.mono b.2 (fun e g d=>by
         cases e with
         | returned u=>exact d
         | panicked c=>exact False.elim d
         | outgrown=>exact False.elim (by obtain⟨_,_,b⟩:=d;exact b))⟩
     | exact⟨b.1,RoundIn.mono b.2 (fun e g d=>by
         cases e with
         | returned u=>exact d
         | panicked c=>exact False.elim d
         | outgrown=>exact False.elim (by obtain⟨_,_,b⟩:=d;exact b))⟩
 | halt x w'=>cases x <;> simp only[Oper.uponIn]at b⊢ <;> exact False.elim b
 rename_i hw;simp only[hw]at b;exact b}
theorem zfE{ro:Option Nat}{j:Nat}{g h:Oper}{v:Value}(H:ops[j]?=some h)(D:zax h=false)(E:g.apart ops h=true)(F:∀o q,g.op≠.select o q)(G:∀o q,h.op≠.select o q){C:World→Prop}{B:Act→World→Prop}{a:Act}{w:World}(i:YieldsIn P ops C g v a)(b:wpOpIn (FR ro) 0 P ops QF j B (a.put g.dst v) w):
    wpOpIn (FR ro) 0 P ops QF j (fun u p=>YieldsIn P ops C g v u∧B (u.put g.dst v) p) a w:=by{
 obtain⟨y,n,z⟩:=Oper.apart_spec E
 have keep:∀(a:Act),YieldsIn P ops C g v a→∀e,YieldsIn P ops C g v (a.put h.dst e):=fun a i e =>
  i.of_same (execOp_put g F a h.dst e z) (wanted_put g a h.dst e z)
 have A:=zlk D;unfold wpOpIn at *;simp only[H]at *;rw[wanted_put h a g.dst v y]at b;split
 ·rename_i hw
  simp only[hw,if_true]at b
  unfold Oper.wpIn at *
  refine⟨fun _ _=>trivial,?_⟩
  have b:=b.2
  rw[Oper.semAt_eq _ _ _ A,execOp_put h G a g.dst v y]at b
  rw[Oper.semAt_eq _ _ _ A]
  generalize (execOp a.eval h).run P w=r at *
  cases r with
  | ok x p =>
    cases x <;> simp only[Oper.uponIn]at b⊢
    case value e=>exact⟨keep a i e,by rw[← Act.put_comm a v e n];exact b⟩
    case skip=>exact⟨keep a i _,by rw[← Act.put_comm a v undef n];exact b⟩
    case defer d =>
      have I:YieldsIn P ops C g v { a with defers:=d::a.defers }:=i.of_same rfl rfl
      refine⟨keep _ I _,?_⟩
      rw[← Act.put_comm _ v undef n, ← Act.put_defers]
      exact b
    case enter f args =>
      refine⟨b.1,CallsIn.mono b.2 fun s t m=>?_⟩
      cases s with
      | returned e=>exact⟨keep a i e,by rw[← Act.put_comm a v e n];exact m⟩
      | panicked c=>exact False.elim m
      | outgrown=>exact m
    case row row args=>exact⟨b.1,RowsIn.mono b.2 fun e t m=>⟨keep a i e,by rw[← Act.put_comm a v e n];exact m⟩⟩
    case round l f tmps assign body =>
      refine⟨b.1,RoundIn.mono b.2 fun s t m=>?_⟩
      cases s with
      | returned e=>exact⟨keep a i e,by rw[← Act.put_comm a v e n];exact m⟩
      | panicked c=>exact False.elim m
      | outgrown=>exact m
  | halt x p =>
    cases x <;> simp only[Oper.uponIn]at b⊢
    case panic e=>exact False.elim b
 rename_i hw;simp only[hw]at b;exact⟨fun _ _=>trivial,keep a i _,by rw[← Act.put_comm a v undef n];exact b.2⟩}
theorem ziK{ro:Option Nat}{A:Nat→Prop}{T:Act→World→Prop}{n i g:Nat}(D:g<2){f:List (Nat×Nat)}{w:World}{m:Oper}(t:Region.noSelect ops=true)(j:ops[i]?=some m)(E:Ju m=true):
    ∀(b:List (Nat×Nat)) (a:Act),ChP md ops n (b++(g,i)::f)→(∀z∈b,z.1<2)→(∀c∈m.after,Region.binds md c=true→c.on∉idxs (b++(g,i)::f))→chOK Dw P ops ro A T (b++(g,i)::f) a w→
      qOp P ops (fun e=>e=w) i (fun r=>chOK Dw P ops ro A T (b++f) r w) a
  | [],a,_,_,_,h=>by
    have h1:qOp P ops (fun e=>cls Dw A g w e) i (fun r=>chOK Dw P ops ro A T f r w) a:=by
      simp only[List.nil_append,chOK,if_pos D]at h
      exact h
    obtain⟨I,o,u⟩:=yieldsIn_of_qOp j h1
    exact (zbs E (fun e c=>by subst c;exact zcr) o).qOp j u
  | (d,x)::b,a,hg,hq,hno,h=>by
    have l:d<2:=hq (d,x) (by simp)
    obtain⟨_,_,⟨p,q,_,_,G⟩,M⟩:=hg
    have B:p.apart ops m=true:=(zeM (n:=n) (b:=g) (c:=b++(g,i)::f) q j (by simp) (fun c v l y=>hno c v l (by simpa [idxs]using y)) (G l).2).1
    have N:qOp P ops (fun e=>cls Dw A d w e) x (fun r=>chOK Dw P ops ro A T (b++(g,i)::f) r w) a:=by
      simp only[List.cons_append,chOK,if_pos l]at h
      exact h
    obtain⟨I,o,u⟩:=yieldsIn_of_qOp q N
    have O:=ziK D t j E b _ M (fun z o=>hq z (List.mem_cons_of_mem _ o)) (fun c v l y=>hno c v l (by simp only[List.cons_append,idxs,List.map_cons,List.mem_cons];exact .inr y)) u
    have J:YieldsIn P ops (fun e=>e=w) p I a:=zbs (G l).1 (fun e c=>by subst c;exact zcr) o
    have Q:=qOp_put j B (fun s d=>Region.noSelect_spec t x p s d q) (fun s d=>Region.noSelect_spec t i m s d j) J O
    obtain⟨H,K,L⟩:=yieldsIn_of_qOp j Q
    refine K.qOp j ?_
    obtain⟨R,S,F⟩:=Oper.apart_spec B
    show chOK Dw P ops ro A T ((d,x)::(b++f)) _ w
    simp only[chOK,if_pos l]
    refine YieldsIn.qOp q ?_ L.2
    exact o.of_same (execOp_put p (fun s d=>Region.noSelect_spec t x p s d q) a m.dst H F) (wanted_put p a m.dst H F)
theorem zgu{o:Oper}{a:Act}{C c:World→Prop}{w:World}{v:Value}(hp:Ju o=true)(d:zff o=true)(e:C w)(b:YieldsIn P ops C o v a):YieldsIn P ops c o v a:=by{rcases b with ⟨f,b⟩|b;refine .inl ⟨f,fun h g=>?_⟩;unfold Oper.quietAt;rw[zmF d (zgX hp (b w e))];exact⟨rfl,rfl⟩;exact .inr b}
theorem zjZ{ro:Option Nat}{A:Nat→Prop}{T:Act→World→Prop}{n i k:Nat}(y:2≤k){e:List (Nat×Nat)}{w:World}{m:Oper}(p:Region.noSelect ops=true)(o:ops[i]?=some m)(z:zax m=false):
    ∀(b:List (Nat×Nat)) (a:Act),ChP md ops n (b++(k,i)::e)→(∀v∈b,v.1<2)→(∀g∈m.after,Region.binds md g=true→g.on∉idxs (b++(k,i)::e))→chOK Dw P ops ro A T (b++(k,i)::e) a w→
      wpOpIn (FR ro) 0 P ops QF i (fun j f=>sw Dw A k w f∧chOK Dw P ops ro A T (b++e) j f) a w
  | [],_,_,_,_,h=>by
    simp only[List.nil_append,chOK,if_neg (show ¬k<2 by omega)]at h
    exact h
  | (d,x)::b,a,hg,hq,hno,h=>by
    have c:d<2:=hq (d,x) (by simp)
    obtain⟨_,_,⟨G,l,_,_,q⟩,H⟩:=hg
    obtain⟨F,E⟩:=zeM (n:=n) (b:=k) (c:=b++(k,i)::e) l o (by simp) (fun g r c s=>hno g r c (by simpa [idxs]using s)) (q c).2
    have I:qOp P ops (fun f=>cls Dw A d w f) x (fun j=>chOK Dw P ops ro A T (b++(k,i)::e) j w) a:=by
      simp only[List.cons_append,chOK,if_pos c]at h
      exact h
    obtain⟨S,t,J⟩:=yieldsIn_of_qOp l I
    have K:=zjZ y p o z b _ H (fun v t=>hq v (List.mem_cons_of_mem _ t)) (fun g r c s=>hno g r c (by simp only[List.cons_append,idxs,List.map_cons,List.mem_cons];exact .inr s)) J
    have L:=zfE o z F (fun u d=>Region.noSelect_spec p x G u d l) (fun u d=>Region.noSelect_spec p i m u d o) t K
    refine wpOpIn_mono (fun j f ⟨B,D,M⟩=>⟨D,?_⟩) L
    show chOK Dw P ops ro A T ((d,x)::(b++e)) j f
    simp only[chOK,if_pos c]
    refine YieldsIn.qOp l ?_ M
    rcases E with N|O
    · exact zbs (q c).1 (fun R Q=>zjD c y N D Q) B
    · exact zgu (q c).1 O zcr B
theorem zjv{n i:Nat}:∀(c:List (Nat×Nat)),ChP md ops n c→i∈idxs c→(∃o,ops[i]?=some o∧∀a∈o.after,Region.binds md a=true→a.on∉idxs c)→
    ∃d b e,c=d++(b,i)::e∧∀j∈d,j.1<2
  | [],_,hi,_=>by simp[idxs]at hi
  | (b,x)::c,hg,hi,⟨o,ho,hdep⟩=>by
    by_cases hx:x=i
    · subst hx
      exact⟨[],b,c,rfl,by simp⟩
    · have hi':i∈idxs c:=by
        simp only[idxs,List.map_cons,List.mem_cons]at hi
        exact hi.resolve_left fun a=>hx a.symm
      obtain⟨_,_,⟨y,w,_,q,_⟩,r⟩:=hg
      have s:b<2:=by
        rcases Nat.lt_or_ge b 2 with l|l
        · exact l
        · obtain⟨z,m,a,g,f,p⟩:=(q l).2 i hi'
          have:=Option.some.inj (ho.symm.trans m)
          subst this
          exact absurd (by simp only[idxs,List.map_cons,List.mem_cons];exact p) (hdep a g f)
      obtain⟨d,u,e,rfl,v⟩:=zjv c r hi' ⟨o,ho,fun a g f t=>hdep a g f (by simp only[idxs,List.map_cons,List.mem_cons];exact .inr t)⟩
      exact⟨(b,x)::d,u,e,rfl,fun j h=>by
        rcases List.mem_cons.1 h with rfl|h
        · exact s
        · exact v j h⟩
theorem zlR{ro:Option Nat}{Q:Exit→Act→World→Prop}{i:Nat}{c:Oper}{w:World}{g:Act→Prop}{d:Act→World→Prop}{a:Act}(h:ops[i]?=some c)(hp:Ju c=true)(b:qOp P ops (fun j=>j=w) i g a)(e:∀f,g f→d f w):wpOpIn (FR ro) 0 P ops Q i d a w:=by{unfold qOp at b;unfold wpOpIn;simp only[h]at b⊢;split;rename_i hw;rw[if_pos hw]at b;obtain⟨o,l,m⟩:=b;have n:=zgX hp (l w rfl);refine⟨fun _ _=>trivial,?_⟩;rw[je n (fun p b=>by cases b),Oper.uponIn_value];exact e _ m;rename_i hw;rw[if_neg hw]at b;exact⟨fun _ _=>trivial,e _ b⟩}
theorem zfd{ro:Option Nat}{A:Nat→Prop}{n:Nat}{Q:Exit→Act→World→Prop}{T:Act→World→Prop}(O:Region.noSelect ops=true)(c0:n≤ops.size)(b3:n<ops.size→Region.sinkB md ops n=true∧Region.chainB md ops n=true)(X:∀b:Array Bool,b.size=ops.size→(∀i,i<n→b.getD i false=true)→(∀i,n≤i→b.getD i false=false)→Region.seqB md ops (ops.size-n) n b=true)(b4:∀a w,T a w→wpListIn (FR ro) 0 P ops Q (ops.toList.drop n) a w):
    ∀(m:Nat) (c:List (Nat×Nat)) (b:Array Bool) (a:Act) (w:World),c.length=m→ChP md ops n c→(∀i,i<n→(b.getD i false=false↔i∈idxs c))→HeadInv md ops n b→
      chOK Dw P ops ro A T c a w→wpAnyIn (FR ro) 0 P md ops Q (m+(ops.size-n)) b a w:=by{
 intro m;induction m with
 | zero =>
  intro c b a w I l x j e
  have a6:c=[]:=List.eq_nil_of_length_eq_zero I
  subst a6
  have a0:∀i,i<n→b.getD i false=true:=fun i g=>by
   cases hv:b.getD i false with
   | true=>rfl
   | false=>have:=(x i g).1 hv;simp[idxs]at this
  have a1:=X b j.size a0 (fun i g=>by
   rcases Nat.lt_or_ge i ops.size with e|e
   exact getD_both (j.tail i g e)
   simp[Array.getElem?_eq_none (show b.size≤i by rw[j.size];exact e)])
  rw[Nat.zero_add]
  have:=zcz (F:=FR ro) (md:=md) (Q':=Q) (ops.toList.drop n) n b a w (fun v=>by simp[List.getElem?_drop]) (by simpa using a1) (b4 a w e)
  simpa using this
 | succ m ih =>
  intro c b a w I l x j e
  have U:∀i,i∈idxs c→i<n→b.getD i true=false:=fun i g G=>getD_in (by rw[j.size];omega) ((x i G).2 g)
  have Z:∀i,i<n→i∉idxs c→b.getD i false=true:=fun i g b5=>by
   cases hv:b.getD i false with
   | true=>rfl
   | false=>exact absurd ((x i g).1 hv) b5
  obtain⟨z,W,J⟩:∃z,z<n∧z∈idxs c∧z∈Region.ready md ops b:=by
   cases c with
   | nil=>simp at I
   | cons p c =>
    obtain⟨y,i⟩:=p
    obtain⟨q,B,⟨o,r,b6,_⟩,_⟩:=l
    refine⟨i,q,by simp[idxs],mem_ready.2 ⟨U i (by simp[idxs]) q,o,r,fun h M s=>?_⟩⟩
    obtain⟨E,F,b7⟩:=b6 h M s
    refine Z _ E ?_
    simp only[idxs,List.map_cons,List.mem_cons,not_or]
    exact⟨F,b7⟩
  rw[show m+1+(ops.size-n)=(m+(ops.size-n))+1 by omega]
  refine⟨(by intro e;rw[e]at J;exact absurd J.2 (by simp)),fun i g=>?_⟩
  have R:i<n:=by
   rcases Nat.lt_or_ge i n with f|f
   exact f
   obtain⟨_,o,r,_⟩:=mem_ready.1 g
   have G:i<ops.size:=(Array.getElem?_eq_some_iff.1 r).1
   obtain⟨E,F⟩:=b3 (by omega)
   exact absurd g (tail_waits E F (by omega) j _ z rfl W (U z J.1 W) i f)
  obtain⟨a7,o,r,a2⟩:=mem_ready.1 g
  have a8:i∈idxs c:=(x i R).1 (getD_both a7)
  have H:∀h∈o.after,Region.binds md h=true→h.on∉idxs c:=fun h M s b8=>by
   have q:=a2 h M s
   have G:h.on<n:=by
    rcases Nat.lt_or_ge h.on n with f|f
    exact f
    rcases Nat.lt_or_ge h.on ops.size with B|B
    rw[getD_both (j.tail _ f B)]at q;cases q
    simp[Array.getElem?_eq_none (show b.size≤h.on by rw[j.size];exact B)]at q
   rw[(x _ G).2 b8]at q
   cases q
  obtain⟨d,y,t,rfl,N⟩:=zjv c l a8 ⟨o,r,H⟩
  have a9:=zhD (x:=(y,i)) r N H l
  have b0:i∉idxs (d++t):=by
   have b1:∀(d:List (Nat×Nat)),ChP md ops n (d++(y,i)::t)→i∉idxs (d++t):=by
    intro d
    induction d with
    | nil=>exact fun e=>e.2.1
    | cons p d ihp =>
     obtain⟨c1,c3⟩:=p
     intro e
     have q:=ihp e.2.2.2
     have B:=e.2.1
     simp only[List.cons_append,idxs,List.map_cons,List.mem_cons,not_or]
     refine⟨fun h=>B (by subst h;simp[idxs]),q⟩
   exact b1 d l
  have a3:(d++t).length=m:=by simp at I ⊢;omega
  have a4:∀v,v<n→((b.setIfInBounds i true).getD v false=false↔v∈idxs (d++t)):=fun v b9=>by
   by_cases K:v=i
   subst K
   have a5:v<b.size:=by rw[j.size];omega
   simp only[b0,iff_false]
   simp[a5]
   rw[getD_set_ne false (Ne.symm K),x v b9]
   simp only[zbV,List.mem_append]
   simp[idxs,K]
  have S:∀u D,chOK Dw P ops ro A T (d++t) u D→wpAnyIn (FR ro) 0 P md ops Q (m+(ops.size-n)) (b.setIfInBounds i true) u D :=
   fun u D f=>ih (d++t) _ u D a3 a9 a4 (j.set g R) f
  have L:∀(d:List (Nat×Nat)),ChP md ops n (d++(y,i)::t)→(2≤y→zax o=false)∧(y<2→Ju o=true):=by
   intro d
   induction d with
   | nil =>
    rintro⟨_,_,⟨c2,b2,_,E,F⟩,_⟩
    have:=Option.some.inj (r.symm.trans b2)
    subst this
    exact⟨fun e=>(E e).1,fun e=>(F e).1⟩
   | cons p d ihp=>exact fun e=>ihp e.2.2.2
  rcases Nat.lt_or_ge y 2 with s|s
  · exact zlR r ((L d l).2 s) (ziK s O r ((L d l).2 s) d a l N H e) fun u f=>S u w f
  · exact wpOpIn_mono (fun u D ⟨_,f⟩=>S u D f) (ziF (zjZ s O r ((L d l).1 s) d a l N H e))}
def chB(md:Region.Mode)(ops:Array Oper)(n:Nat)(c:List (Nat×Nat)):Bool :=
  Region.noSelect ops&&decide (n≤ops.size)&&decide (c.length=n)&&(decide (ops.size≤n)||(Region.sinkB md ops n&&Region.chainB md ops n))&&chG md ops n c&&((List.range n).all fun i=>(idxs c).contains i) &&
    Region.seqB md ops (ops.size-n) n ((List.range ops.size).map fun i=>decide (i<n)).toArray
def CH(Dw:Prop)(P:Program)(nn:Fr)(ops:Array Oper)(A:Nat→Prop)(T:Act→World→Prop)(c:List (Nat×Nat))(E:Env)(w:World):Prop:=∀a,Has nn a E→chOK Dw P ops nn.ro A T c a w
end
section
variable{P:Program}{nn:Fr}{Q:Exit→Act→World→Prop}{A:Nat→Prop}{T:Act→World→Prop}{E:Env}{w w0:World}{l tl r:List Oper}{o:Oper}{c:List (Nat×Nat)}{i n id:Nat}
theorem Zl(A:Nat→Prop)(n:Nat)(c:List (Nat×Nat))(p:P.follows .mixedOrders=true)(hB:chB .any l.toArray n c=true)(f:∀w1,Kp Dw w w1→CH Dw P nn l.toArray A (fun d e=>wpListIn (FR nn.ro) 0 P l.toArray Q (l.drop n) d e) c E w1):C P nn (.region id l.toArray true) Q E w:=by{
 intro j q;refine wpIn_region_any p ?_;simp only[chB,Bool.and_eq_true,decide_eq_true_eq,Bool.or_eq_true]at hB;obtain⟨⟨⟨⟨⟨⟨r,s⟩,t⟩,u⟩,v⟩,x⟩,y⟩:=hB
 have g:=zfd (ro:=nn.ro) (A:=A) (md := .any) (P:=P) (ops:=l.toArray) (Q:=Q) (n:=n) (T:=fun d e=>wpListIn (FR nn.ro) 0 P l.toArray Q (l.drop n) d e) r s (fun I=>u.resolve_left (by omega)) (fun b m z B=>by
  have H:b=((List.range l.toArray.size).map fun i=>decide (i<n)).toArray:=by
    apply Array.ext
    · rw[m];simp
    · intro i o J
      have D:b.getD i false=b[i]:=by simp[o]
      rw[← D]
      rcases Nat.lt_or_ge i n with a|a
      · rw[z i a];simp[a]
      · rw[B i a];simp;omega
  rw[H]
  exact y) (fun _ _ f=>by simpa using f) c.length c (Array.replicate l.toArray.size false) j { w with drawn:=w.drawn+1 } rfl (zjA v) (fun i F=>by
    rw[getD_replicate_false]
    have:=List.all_eq_true.1 x i (List.mem_range.2 F)
    simpa using this)
  ⟨by simp,fun L K _ h=>(by rw[getD_replicate_false]at h;cases h),fun M _ G=>getD_in (by simpa using G) (getD_replicate_false _ _)⟩
  (f _ (Kp.drew (Dw:=Dw) _) j q)
 rw[t,show n+(l.toArray.size-n)=l.toArray.size by omega]at g;exact g}
theorem zcw{o:Oper}{r:List Oper}(a:l.drop i=o::r):l.toArray[i]?=some o:=by{have:=congrArg (fun l=>l[0]?) a;simpa using this}
theorem ZJ(d:l.drop i=o::r)(g:VQ P nn l.toArray (fun a=>Kp Dw w a) (fun e=>chOK Dw P l.toArray nn.ro A T c e w) [o] E):CH Dw P nn l.toArray A T ((0,i)::c) E w:=by{intro b f;simp only[chOK,if_pos (show 0<2 by decide)];show qOp P l.toArray (fun a=>Kp Dw w a) i _ b;unfold qOp;simp only[zcw d];exact g b f}
theorem zj(d:l.drop i=o::r)(g:VQ P nn l.toArray (fun a=>XA A w a) (fun e=>chOK Dw P l.toArray nn.ro A T c e w) [o] E):CH Dw P nn l.toArray A T ((1,i)::c) E w:=by{intro b f;simp only[chOK,if_pos (show 1<2 by decide)];show qOp P l.toArray (fun a=>XA A w a) i _ b;unfold qOp;simp only[zcw d];exact g b f}
theorem zh{W:World→Prop}(d:CH Dw P nn l.toArray A T c E w):VQ P nn l.toArray W (fun a=>chOK Dw P l.toArray nn.ro A T c a w) [] E:=fun e b=>wpQuiet_nil (d e b)
theorem zY(j:l.drop i=o::r){k:Nat}(d:V P nn l.toArray (Exit.then (fun m e=>sw Dw A (k+2) w e∧chOK Dw P l.toArray nn.ro A T c m e) QF) [o] E w):CH Dw P nn l.toArray A T ((k+2,i)::c) E w:=by{
 intro f n;simp only[chOK,if_neg (show ¬k+2<2 by omega)];show wpOpIn _ 0 P l.toArray QF i _ f w;have a:=d f n;unfold wpListIn at a;unfold wpOpIn;simp only[zcw j];split;rename_i hw;rw[if_pos hw]at a;refine⟨a.1,?_⟩;have a:=a.2;generalize (o.semAt (FR nn.ro).round f.eval).run P w=r at *;cases r with
 | ok x e =>
  cases x <;> simp only[Oper.uponIn]at a ⊢ <;>
   first
     | exact a
     | exact⟨a.1,CallsIn.mono a.2 (fun g h b=>by
         cases g with
         | returned u=>exact b
         | panicked c=>exact False.elim b
         | outgrown=>exact False.elim (by obtain⟨_,_,d⟩:=b;exact d))⟩
     | exact⟨a.1,RoundIn.mono a.2 (fun g h b=>by
         cases g with
         | returned u=>exact b
         | panicked c=>exact False.elim b
         | outgrown=>exact False.elim (by obtain⟨_,_,d⟩:=b;exact d))⟩
 | halt x e=>cases x <;> simp only[Oper.uponIn]at a ⊢ <;> exact False.elim a
 rename_i hw;rw[if_neg hw]at a;exact a}
theorem V_CH(d:Kp Dw w0 w)(a:CH Dw P nn l.toArray A T c E w):V P nn l.toArray (Exit.then (fun e b=>sw Dw A (0+2) w0 b∧chOK Dw P l.toArray nn.ro A T c e b) QF) [] E w:=fun g f=>wpListIn_nil ⟨⟨fun _=>d,fun a=>absurd a (by decide)⟩,a g f⟩
theorem jK(d:XA A w0 w)(a:CH Dw P nn l.toArray A T c E w):V P nn l.toArray (Exit.then (fun e b=>sw Dw A (1+2) w0 b∧chOK Dw P l.toArray nn.ro A T c e b) QF) [] E w:=fun g f=>wpListIn_nil ⟨⟨fun a=>absurd a (by decide),fun _=>d⟩,a g f⟩
theorem qa(a:CH Dw P nn l.toArray A T c E w):V P nn l.toArray (Exit.then (fun d b=>sw Dw A (2+2) w0 b∧chOK Dw P l.toArray nn.ro A T c d b) QF) [] E w:=fun f e=>wpListIn_nil ⟨⟨fun a=>absurd a (by decide),fun a=>absurd a (by decide)⟩,a f e⟩
theorem ZQ(c:V P nn l.toArray Q tl E w):CH Dw P nn l.toArray A (fun a b=>wpListIn (FR nn.ro) 0 P l.toArray Q tl a b) [] E w:=c
end
section
variable{B:Nat}{A A1:Nat→Prop}{w w1:World}{L M:List Ob}
theorem Hp.join(j:Hp B A w L)(hB:B≤w.heap.size)(t:Tr Dw w.heap.size A w A1 w1)(n:Hp w.heap.size A1 w1 M):Hp B A1 w1 (M++L):=by{obtain⟨g,l,c⟩:=j;obtain⟨U2,h,e⟩:=n;refine⟨U2++g,Sp.append.2 ⟨U2,g,rfl,fun a d i=>?_,h,l.keep t.ex fun a d=>t.below.block a (c a d).2.1⟩,fun a d=>?_⟩;have:=(e a d).1;have:=(c a i).2.1;omega;rcases List.mem_append.1 d with b|b;exact⟨Nat.le_trans hB (e a b).1,(e a b).2⟩;refine⟨(c a b).1,Nat.lt_of_lt_of_le (c a b).2.1 t.ex.size,fun m=>?_⟩;rcases t.sub a m with f|f;exact (c a b).2.2 f;have:=(c a b).2.1;omega}
end
end Go.Gw
