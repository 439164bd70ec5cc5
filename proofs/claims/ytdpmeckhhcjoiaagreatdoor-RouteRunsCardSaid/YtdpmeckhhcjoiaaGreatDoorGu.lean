import Derived.Test.YtdpmeckhhcjoiaaGreatDoorGq
namespace Go.Gw
open Go Go.RowKit Go.Pu
variable{Dw:Prop}
set_option linter.unusedSimpArgs false
set_option linter.unusedVariables false
section
variable{P:Program}{ops:Array Oper}{md:Region.Mode}
def chZ(Dw:Prop)(P:Program)(ops:Array Oper)(ro:Option Nat)(A:Nat→Prop)(T:Act→World→Prop)(z:Nat)(c2:List (Nat×Nat)):List (Nat×Nat)→Act→World→Prop
 | [],a,w=>chOK Dw P ops ro A T ((2,z)::c2) a w
 | (b,i)::c,a,w=>if b<2 then qOp P ops (fun w'=>cls Dw A b w w') i (fun a'=>chZ Dw P ops ro A T z c2 c a' w) a
  else chOK Dw P ops ro A T ((2,z)::(b,i)::(c++c2)) a w∧wpOpIn (FR ro) 0 P ops QF i (fun a' w'=>sw Dw A b w w'∧chZ Dw P ops ro A T z c2 c a' w') a w
theorem znh{ro:Option Nat}{A:Nat→Prop}{T:Act→World→Prop}{z:Nat}{c2:List (Nat×Nat)}{w:World}{f:Oper}(i:Region.noSelect ops=true)(j:ops[z]?=some f)(l:zbp f=false):
  ∀(c:List (Nat×Nat)) (a:Act),(∀g∈c,g.1<2→∃o,ops[g.2]?=some o∧o.apart ops f=true∧JK o=true)→chZ Dw P ops ro A T z c2 c a w→
   wpOpIn (FR ro) 0 P ops QF z (fun e d=>sw Dw A 2 w d∧chOK Dw P ops ro A T (c++c2) e d) a w
 | [],a,_,h=>by
  simp only[chZ,chOK,if_neg (show ¬2<2 by omega)]at h
  exact h
 | (b,x)::c,a,hq,h=>by
  rcases Nat.lt_or_ge b 2 with hb|hb
  ·obtain⟨ox,hox,hap,hpx⟩:=hq (b,x) (by simp) hb
   have p:qOp P ops (fun d=>cls Dw A b w d) x (fun e=>chZ Dw P ops ro A T z c2 c e w) a:=by
    simp only[chZ,if_pos hb]at h
    exact h
   obtain⟨E,q,r⟩:=yieldsIn_of_qOp hox p
   have t:=znh i j l c _ (fun g s=>hq g (List.mem_cons_of_mem _ s)) r
   have u:=zhk j l hap (fun k b=>Region.noSelect_spec i x ox k b hox) (fun k b=>Region.noSelect_spec i z f k b j) q t
   refine wpOpIn_mono (fun e d ⟨v,m,y⟩=>⟨m,?_⟩) u
   show chOK Dw P ops ro A T ((b,x)::(c++c2)) e d
   simp only[chOK,if_pos hb]
   refine YieldsIn.qOp hox ?_ y
   exact zbV hpx (fun D B=>zln hb (by decide) (by simp[zfH]) m B) v
  ·simp only[chZ,if_neg (show ¬b<2 by omega)]at h
   have n:=h.1
   simp only[chOK,if_neg (show ¬2<2 by omega)]at n
   exact n
theorem zjD{n i:Nat}{c2:List (Nat×Nat)}:∀(c:List (Nat×Nat)),ChP md ops n (c++c2)→i∈idxs c→(∃o,ops[i]?=some o∧∀a∈o.after,Region.binds md a=true→a.on∉idxs (c++c2))→
  ∃d b e,c=d++(b,i)::e∧∀j∈d,j.1<2
 | [],_,hi,_=>by simp[idxs]at hi
 | (b,x)::c,hg,hi,⟨o,ho,hdep⟩=>by
  by_cases hx:x=i
  ·subst hx
   exact⟨[],b,c,rfl,by simp⟩
  ·have hi':i∈idxs c:=by
    simp only[idxs,List.map_cons,List.mem_cons]at hi
    exact hi.resolve_left fun a=>hx a.symm
   obtain⟨_,_,⟨w,v,_,p,_⟩,q⟩:=hg
   have r:b<2:=by
    rcases Nat.lt_or_ge b 2 with k|k
    ·exact k
    ·obtain⟨y,l,a,g,f,m⟩:=(p k).2 i (by show i∈idxs (c++c2);rw[Jp];exact List.mem_append_left _ hi')
     have:=Option.some.inj (ho.symm.trans l)
     subst this
     exact absurd (by simp only[List.cons_append,idxs,List.map_cons,List.mem_cons];exact m) (hdep a g f)
   obtain⟨d,t,e,rfl,u⟩:=zjD c q hi' ⟨o,ho,fun a g f s=>hdep a g f (by simp only[List.cons_append,idxs,List.map_cons,List.mem_cons];exact .inr s)⟩
   exact⟨(b,x)::d,t,e,rfl,fun j h=>by
    rcases List.mem_cons.1 h with rfl|h
    ·exact r
    ·exact u j h⟩
theorem zle{listed:Array Bool}(c:∀i,i<ops.size→listed.getD i false=true):Region.ready md ops listed=[]:=by{refine List.eq_nil_iff_forall_not_mem.2 fun i d=>?_;obtain⟨b,o,e,_⟩:=mem_ready.1 d;have a:=c i (Array.getElem?_eq_some_iff.1 e).1;rw[getD_both b]at a;cases a}
def chzB(md:Region.Mode)(ops:Array Oper)(z:Nat)(c1 c2:List (Nat×Nat)):Bool :=
 Region.noSelect ops&&decide (c1.length+c2.length+1=ops.size)&&chG md ops ops.size (c1++c2)&&((List.range ops.size).all fun i=>(i==z)||(idxs (c1++c2)).contains i)&&!(idxs (c1++c2)).contains z &&
  (match ops[z]? with
  | none=>false
  | some oz=>!zbp oz&&(oz.after.all fun e=>!Region.binds md e)&&c1.all fun p=>decide (2≤p.1)||match ops[p.2]? with
   | none=>false
   | some o=>o.apart ops oz&&JK o) &&
  (idxs c2).all fun j=>match ops[j]? with
   | none=>false
   | some oj=>oj.after.any fun e=>Region.binds md e&&(e.on==z||(idxs c2).contains e.on)
def CHZ(Dw:Prop)(P:Program)(nn:Fr)(ops:Array Oper)(A:Nat→Prop)(T:Act→World→Prop)(z:Nat)(c2 c:List (Nat×Nat))(E:Env)(w:World):Prop:=∀a,Has nn a E→chZ Dw P ops nn.ro A T z c2 c a w
end
section
variable{P:Program}{nn:Fr}{Q:Exit→Act→World→Prop}{A:Nat→Prop}{T:Act→World→Prop}{E:Env}{w w0:World}{l tl r:List Oper}{o:Oper}{c c2:List (Nat×Nat)}{i n id z:Nat}
theorem zrZ(a:CH Dw P nn l.toArray A T ((2,z)::c2) E w):CHZ Dw P nn l.toArray A T z c2 [] E w:=a
theorem zla(d:l.drop i=o::r)(g:VQ P nn l.toArray (fun a=>XA A w a) (fun e=>chZ Dw P l.toArray nn.ro A T z c2 c e w) [o] E):CHZ Dw P nn l.toArray A T z c2 ((1,i)::c) E w:=by{intro b f;simp only[chZ,if_pos (show 1<2 by decide)];show qOp P l.toArray (fun a=>XA A w a) i _ b;unfold qOp;simp only[zdR d];exact g b f}
theorem zkP{W:World→Prop}(d:CHZ Dw P nn l.toArray A T z c2 c E w):VQ P nn l.toArray W (fun a=>chZ Dw P l.toArray nn.ro A T z c2 c a w) [] E:=fun e b=>wpQuiet_nil (d e b)
theorem zqk(h:List (Nat×Nat)){k:Nat}(m:h=(2,z)::(k+2,i)::(c++c2))(p:CH Dw P nn l.toArray A T h E w)(q:l.drop i=o::r)(d:V P nn l.toArray (Exit.then (fun s e=>sw Dw A (k+2) w e∧chZ Dw P l.toArray nn.ro A T z c2 c s e) QF) [o] E w):CHZ Dw P nn l.toArray A T z c2 ((k+2,i)::c) E w:=by{
 subst m;intro f j;simp only[chZ,if_neg (show ¬k+2<2 by omega)];refine⟨p f j,?_⟩;show wpOpIn _ 0 P l.toArray QF i _ f w;have a:=d f j;unfold wpListIn at a;unfold wpOpIn;simp only[zdR q];split;rename_i hw;rw[if_pos hw]at a;refine⟨a.1,?_⟩;have a:=a.2;generalize (o.semAt (FR nn.ro).round f.eval).run P w=r at *;cases r with
 | ok x e =>
  cases x <;> simp only[Oper.uponIn]at a ⊢ <;>
   first
    | exact a
    | exact⟨a.1,CallsIn.mono a.2 (fun g n b=>by
      cases g with
      | returned u=>exact b
      | panicked c=>exact False.elim b
      | outgrown=>exact False.elim (by obtain⟨_,_,d⟩:=b;exact d))⟩
    | exact⟨a.1,RoundIn.mono a.2 (fun g n b=>by
      cases g with
      | returned u=>exact b
      | panicked c=>exact False.elim b
      | outgrown=>exact False.elim (by obtain⟨_,_,d⟩:=b;exact d))⟩
 | halt x e=>cases x <;> simp only[Oper.uponIn]at a ⊢ <;> exact False.elim a
 rename_i hw;rw[if_neg hw]at a;exact a}
theorem zsT(d:Kp Dw w0 w)(a:CHZ Dw P nn l.toArray A T z c2 c E w):V P nn l.toArray (Exit.then (fun e b=>sw Dw A (0+2) w0 b∧chZ Dw P l.toArray nn.ro A T z c2 c e b) QF) [] E w:=fun g f=>wpListIn_nil ⟨⟨fun _=>d,fun a=>absurd a (by decide)⟩,a g f⟩
end
section
variable{P:Program}{n:Fr}{ops:Array Oper}{Q:Exit→Act→World→Prop}{rest:List Oper}{E:Env}{w:World}{B:Nat}{A:Nat→Prop}{L:List Ob}{d ty t:Nat}{pos:String}{af:Array Edge}
end
end Go.Gw
