import Derived.Test.YtdpmeckhhcjoiaaGreatDoorGw
import Derived.Test.YtdpmeckhhcjoiaaGreatDoorGs
import Derived.Test.YtdpmeckhhcjoiaaGreatDoorGh
namespace Go.Gw
open Go Go.RowKit Go.Pu
variable{Dw:Prop}
set_option linter.unusedVariables false
abbrev Ii(x:Int):Value := .int .i64 x
abbrev Pt(b:Nat):Value := .pointer (some ⟨b,0,none⟩)
theorem Be(b:Bool):b=true∨b=false:=Bool.eq_false_or_eq_true b
theorem Bs{α β:Type}{x:Option α}{f:α→Option β}{b:β}(c:Option.bind x f=some b):∃a,x=some a∧f a=some b:=Option.bind_eq_some_iff.1 c
theorem Oi{α:Type}{a b:α}(c:some a=some b):a=b:=Option.some.inj c
section
variable{P:Program}{n:Fr}{ops:Array Oper}{Q:Exit→Act→World→Prop}{rest:List Oper}{E:Env}{w:World}{d:Nat}{ty t:TypeId}{pos:String}{af:Array Edge}{x:Operand}{v:Value}{W:World→Prop}{QA:Act→Prop}{o:Oper}
theorem Mm(c:V P n ops Q rest ((d,v)::E) w)(a:ev E x=some v:=by exact rfl)(b:Nat.blt d n.sz=true:=by exact rfl):V P n ops Q (⟨some d,.move x,ty,pos,af,none⟩::rest) E w:=V_y (zqJ a) rfl rfl b c
theorem As(c:V P n ops Q rest ((d,v)::E) w)(a:ev E x=some v:=by exact rfl)(b:Nat.blt d n.sz=true:=by exact rfl):V P n ops Q (⟨some d,.assign x,ty,pos,af,none⟩::rest) E w:=V_y (znD a) rfl rfl b c
theorem Qm(c:VQ P n ops W QA rest ((d,v)::E))(a:ev E x=some v:=by exact rfl)(b:Nat.blt d n.sz=true:=by exact rfl):VQ P n ops W QA (⟨some d,.move x,ty,pos,af,none⟩::rest) E:=VQ_y (fun _ _=>zqJ a) rfl rfl b c
theorem Qa(c:VQ P n ops W QA rest ((d,v)::E))(a:ev E x=some v:=by exact rfl)(b:Nat.blt d n.sz=true:=by exact rfl):VQ P n ops W QA (⟨some d,.assign x,ty,pos,af,none⟩::rest) E:=VQ_y (fun _ _=>znD a) rfl rfl b c
theorem Nc{a:Addr}(e:V P n ops Q rest ((d,.pointer (some a))::E) w)(b:ev E x=some (.pointer (some a)):=by exact rfl)(c:Nat.blt d n.sz=true:=by exact rfl):V P n ops Q (⟨some d,.nilCheck x,ty,pos,af,none⟩::rest) E w:=V_y (zeh b) rfl rfl c e
theorem Fa{b off i:Nat}{a:Array Field}{f:Field}{sz:Nat}(c:P.underlying t=some (.struct a))(e:a[i]?=some f)(g:∀w,(Go.sizeOf f.type).run P w=.ok sz w)(l:V P n ops Q rest ((d,.pointer (some ⟨b,off+f.offset,none⟩))::E) w)(h:sz≠0:=by decide)(j:ev E x=some (.pointer (some ⟨b,off,none⟩)):=by exact rfl)(k:Nat.blt d n.sz=true:=by exact rfl):V P n ops Q (⟨some d,.fieldAddr t x i,ty,pos,af,none⟩::rest) E w:=V_y (zhG c e g h j) rfl rfl k l
theorem Qf{b off i:Nat}{a:Array Field}{f:Field}{sz:Nat}(c:P.underlying t=some (.struct a))(e:a[i]?=some f)(g:∀w,(Go.sizeOf f.type).run P w=.ok sz w)(l:VQ P n ops W QA rest ((d,.pointer (some ⟨b,off+f.offset,none⟩))::E))(h:sz≠0:=by decide)(j:ev E x=some (.pointer (some ⟨b,off,none⟩)):=by exact rfl)(k:Nat.blt d n.sz=true:=by exact rfl):VQ P n ops W QA (⟨some d,.fieldAddr t x i,ty,pos,af,none⟩::rest) E:=VQ_y (fun _ _=>zhG c e g h j) rfl rfl k l
theorem Ld{b off:Nat}(a:w.cell? ⟨b,off,none⟩=some v)(c:∀w,(isAgg t).run P w=.ok false w)(g:V P n ops Q rest ((d,v)::E) w)(e:ev E x=some (.pointer (some ⟨b,off,none⟩)):=by exact rfl)(f:Nat.blt d n.sz=true:=by exact rfl):V P n ops Q (⟨some d,.load t x,ty,pos,af,none⟩::rest) E w:=V_y (QQ a c e) rfl rfl f g
theorem Ql{b off:Nat}(a:∀w,W w→w.cell? ⟨b,off,none⟩=some v)(c:∀w,(isAgg t).run P w=.ok false w)(h:VQ P n ops W QA rest ((d,v)::E))(e:ev E x=some (.pointer (some ⟨b,off,none⟩)):=by exact rfl)(f:Nat.blt d n.sz=true:=by exact rfl):VQ P n ops W QA (⟨some d,.load t x,ty,pos,af,none⟩::rest) E:=VQ_y (fun w g=>QQ (a w g) c e) rfl rfl f h
theorem To{b:Exit→Act→World→Prop}{y:Code}(d:C P n y Q E w)(c:∀a w,b .normal a w=y.wpIn (FR n.ro) 0 P Q a w:=by exact fun _ _=>rfl):V P n ops b [] E w:=V_to c d
theorem Gm{e:Op}{j u:Nat}{a b c:Bool}(f:b=c)(l:V P n ops Q rest ((d,undef)::E) w)(g:zdM ops j=some u:=by exact rfl)(h:E.get u=some (.bool b):=by exact rfl)(i:(c==a)=false:=by exact rfl)(k:Nat.blt d n.sz=true:=by exact rfl):V P n ops Q (⟨some d,e,ty,pos,af,some (j,a)⟩::rest) E w:=V_gn rfl g h f i rfl k l
theorem Qg{e:Op}{j u:Nat}{a b c:Bool}(f:b=c)(l:VQ P n ops W QA rest ((d,undef)::E))(g:zdM ops j=some u:=by exact rfl)(h:E.get u=some (.bool b):=by exact rfl)(i:(c==a)=false:=by exact rfl)(k:Nat.blt d n.sz=true:=by exact rfl):VQ P n ops W QA (⟨some d,e,ty,pos,af,some (j,a)⟩::rest) E:=zsP rfl g h f i rfl k l
theorem Gf{c:Op}{d:Option Nat}{j u:Nat}{a b:Bool}(e:b=a)(h:V P n ops Q (⟨d,c,ty,pos,af,none⟩::rest) E w)(f:zdM ops j=some u:=by exact rfl)(g:E.get u=some (.bool b):=by exact rfl):V P n ops Q (⟨d,c,ty,pos,af,some (j,a)⟩::rest) E w:=V_ge rfl f g e h
theorem Qh{c:Op}{d:Option Nat}{j u:Nat}{a b:Bool}(e:b=a)(h:VQ P n ops W QA (⟨d,c,ty,pos,af,none⟩::rest) E)(f:zdM ops j=some u:=by exact rfl)(g:E.get u=some (.bool b):=by exact rfl):VQ P n ops W QA (⟨d,c,ty,pos,af,some (j,a)⟩::rest) E:=zsX rfl f g e h
end
section
variable{P:Program}{n:Fr}{Q:Exit→Act→World→Prop}{E:Env}{w:World}{x y:Code}{id:Nat}{l:List Oper}
theorem Sr(b:V P n l.toArray (Exit.then (fun a w=>y.wpIn (FR n.ro) 0 P Q a w) Q) l E w):C P n (.seq (.region id l.toArray false) y) Q E w:=zk (zr b)
end
section
variable{P:Program}{n:Fr}{ops:Array Oper}{Q:Exit→Act→World→Prop}{rest:List Oper}{E:Env}{w w':World}{d:Nat}{ty t:TypeId}{pos:String}{af:Array Edge}{x:Operand}{v:Value}{W:World→Prop}{QA:Act→Prop}{o:Oper}
theorem Vy{a:Op}(b:Y P n E ⟨some d,a,ty,pos,af,none⟩ w v w')(e:V P n ops Q rest ((d,v)::E) w')(c:Nat.blt d n.sz=true:=by exact rfl):V P n ops Q (⟨some d,a,ty,pos,af,none⟩::rest) E w:=V_y b rfl rfl c e
theorem Qv{a:Op}(b:∀w,W w→Y P n E ⟨some d,a,ty,pos,af,none⟩ w v w)(e:VQ P n ops W QA rest ((d,v)::E))(c:Nat.blt d n.sz=true:=by exact rfl):VQ P n ops W QA (⟨some d,a,ty,pos,af,none⟩::rest) E:=VQ_y b rfl rfl c e
theorem Qn{a:Addr}(e:VQ P n ops W QA rest ((d,.pointer (some a))::E))(b:ev E x=some (.pointer (some a)):=by exact rfl)(c:Nat.blt d n.sz=true:=by exact rfl):VQ P n ops W QA (⟨some d,.nilCheck x,ty,pos,af,none⟩::rest) E:=VQ_y (fun _ _=>zeh b) rfl rfl c e
theorem Qc{b off:Nat}(a:w.cell? ⟨b,off,none⟩=some v)(e:∀w,(isAgg t).run P w=.ok false w)(h:VQ P n ops (fun w'=>Kp Dw w w') QA rest ((d,v)::E))(f:ev E x=some (.pointer (some ⟨b,off,none⟩)):=by exact rfl)(g:Nat.blt d n.sz=true:=by exact rfl):VQ P n ops (fun w'=>Kp Dw w w') QA (⟨some d,.load t x,ty,pos,af,none⟩::rest) E :=
 VQ_y (fun w' c=>QQ ((World.cell?_of_block (c.block _ (World.block_lt_of_cell? _ _ a))).trans a) e f) rfl rfl g h
theorem Qi{A:Nat→Prop}{b off:Nat}{i:Int}(c:El A w b off i)(e:∀w,(isAgg t).run P w=.ok false w)(h:VQ P n ops (fun w'=>Kp Dw w w') QA rest ((d,.int .i64 i)::E))(f:ev E x=some (.pointer (some ⟨b,off,none⟩)):=by exact rfl)(g:Nat.blt d n.sz=true:=by exact rfl):VQ P n ops (fun w'=>Kp Dw w w') QA (⟨some d,.load t x,ty,pos,af,none⟩::rest) E :=
 VQ_y (fun w' a=>QQ (El.int (El.kp (Dw:=Dw) c a)) e f) rfl rfl g h
end
theorem Hf{B:Nat}{A:Nat→Prop}{w:World}{L:List Ob}{a:Ob}(i:Nat)(b:Hp B A w L)(hi:L[i]?=some a:=by exact rfl):Hp B A w (a::L.eraseIdx i):=Hp.front b hi
theorem Hd{B:Nat}{A:Nat→Prop}{w:World}{L:List Ob}{a:Ob}(i:Nat)(b:Hp B A w L)(hi:L[i]?=some a:=by exact rfl):Hp B A w (L.eraseIdx i):=Hp.drop b hi
theorem Bx{B:Nat}{A b:Nat→Prop}{w a:World}(c:B≤w.heap.size)(t:Tr Dw B A w b a):B≤a.heap.size:=Nat.le_trans c t.ex.size
theorem Tt{B:Nat}{A a b:Nat→Prop}{w c d:World}(e:Tr Dw B A w a c)(t:Tr Dw B a c b d):Tr Dw B A w b d:=Tr.trans e t
section
variable{P:Program}{n:Fr}{a:Act}{E E':Env}{w:World}
theorem Has.sb(c:Has n a E)(b:subE E' E:=by repeat (first | exact trivial | refine⟨rfl,?_⟩)):Has n a E':=c.sub b
theorem ib{id:Nat}{b:Exit→Act→World→Prop}:Exit.inBlock id b .ret a w=b .ret a w:=rfl
theorem th{c:Act→World→Prop}{b:Exit→Act→World→Prop}:Exit.then c b .ret a w=b .ret a w:=rfl
end
section
variable{P:Program}{n:Fr}{ops:Array Oper}{Q:Exit→Act→World→Prop}{rest:List Oper}{E:Env}{w w':World}{d:Nat}{ty t e:TypeId}{pos:String}{af:Array Edge}{x y:Operand}{v:Value}
theorem Sn{w0:World}{b:Nat}{cs:Array Value}{sz:Nat}(d:NewB w0 w b cs e)(f:∀w,(Go.sizeOf t).run P w=.ok sz w)(k:∀a,NewB w0 a b v.cells e→V P n ops Q rest E a)(g:ev E y=some v:=by exact rfl)(h:ev E x=some (.pointer (some ⟨b,0,none⟩)):=by exact rfl)(i:v.cells.size=sz:=by exact rfl)(j:cs.size=sz:=by exact rfl)(c:∀l∈v.cells.toList,l.oneCell'=true:=by repeat (first | exact List.forall_mem_nil _ | refine List.forall_mem_cons.2 ⟨(by first | exact rfl | assumption),?_⟩)):V P n ops Q (⟨none,.store t x y,ty,pos,af,none⟩::rest) E w:=zps d f g h i j c k
theorem Vc{f:FuncId}{c:Operand}{a:Array Operand}{h:Array TypeId}{vs:List Value}{cap fst b:Array Value}{R:Value→World→Prop}(e:∀(a:Array Value) (w:World),(callFunc f a).run P w=.ok (.enter f a) w)(i:Ret P f b w R)(m:∀v w',R v w'→V P n ops Q rest ((d,v)::E) w')(j:ev E c=some (.func (.func f) fst cap):=by exact rfl)(k:evs E a.toList=some vs:=by exact rfl)(g:fst++vs.toArray++cap=b:=by exact rfl)(l:Nat.blt d n.sz=true:=by exact rfl):V P n ops Q (⟨some d,.call ⟨.value c,a,h⟩,ty,pos,af,none⟩::rest) E w:=zgz e j k g l i m
theorem Sk{b:Exit→Act→World→Prop}{y:Code}(d:C P n y Q E w)(c:∀a w,b .normal a w=y.wpIn (FR n.ro) 0 P Q a w:=by exact fun _ _=>rfl):C P n .skip b E w:=zqF c d
end
theorem St{A:Nat→Prop}{w:World}(b:∀a,w.heap.size≤a→A a):w.heap.size≤w.heap.size∧Tr Dw w.heap.size A w A w∧Hp w.heap.size A w []:=⟨Nat.le_refl _,Tr.refl b,Hp.nil⟩
section
variable{P:Program}{n:Fr}{ops:Array Oper}{Q:Exit→Act→World→Prop}{rest:List Oper}{E:Env}{w:World}{d:Nat}{ty t:TypeId}{pos:String}{af:Array Edge}{x:Operand}{v:Value}{fn:Func}{R:Value→World→Prop}
theorem Rt(c:Res P fn E n w v)(d:R v w)(e:∀a,Q .ret a w=zir P fn R .ret a w:=by intro _;(try simp only[↓ib, ↓th]);first | done | exact rfl)(b:n.ds=[]:=by exact rfl):C P n .ret Q E w:=zbC fun a f=>by rw[e];exact retQ b c d a f
theorem Li{A:Nat→Prop}{b off:Nat}{i:Int}(a:El A w b off i)(c:∀w,(isAgg t).run P w=.ok false w)(g:V P n ops Q rest ((d,.int .i64 i)::E) w)(e:ev E x=some (.pointer (some ⟨b,off,none⟩)):=by exact rfl)(f:Nat.blt d n.sz=true:=by exact rfl):V P n ops Q (⟨some d,.load t x,ty,pos,af,none⟩::rest) E w:=V_y (QQ (El.int a) c e) rfl rfl f g
theorem Cc{o:Operand}{b:Bool}{x y:Code}(a:b=true→C P n x Q E w)(c:b=false→C P n y Q E w)(d:ev E o=some (.bool b):=by exact rfl):C P n (.cond o x y) Q E w:=zll d a c
end
theorem Ws{k a:Nat}(c:k<a)(b:a≤maxLen):some (Value.int .i64 (w64 ((k:Int)+1)))=some (Value.int .i64 ((k+1:Nat):Int)):=by rw[zeK c b]
end Go.Gw
namespace Go.Gw
open Go Go.RowKit Go.Pu
variable{Dw:Prop}
set_option linter.unusedVariables false
section
variable{B:Nat}{A A0 A1:Nat→Prop}{w w0 w1:World}
theorem U1{α1:Type}[GoT α1]{a:Value}{l1:List α1}(t:Tr Dw B A w A1 w1)(c:Tr Dw B A0 w0 A w)(hB:B≤w.heap.size)(d:Sl A w a l1):Sl A1 w1 a l1∧Tr Dw B A0 w0 A1 w1∧B≤w1.heap.size∧∀b,w1.heap.size≤b→A1 b:=⟨d.tr t,c.trans t,Bx hB t,t.new⟩
theorem U2{α1 α2:Type}[GoT α1][GoT α2]{a c:Value}{l1:List α1}{l2:List α2}(t:Tr Dw B A w A1 w1)(d:Tr Dw B A0 w0 A w)(hB:B≤w.heap.size)(e:Sl A w a l1)(f:Sl A w c l2):Sl A1 w1 a l1∧Sl A1 w1 c l2∧Tr Dw B A0 w0 A1 w1∧B≤w1.heap.size∧∀b,w1.heap.size≤b→A1 b:=⟨e.tr t,f.tr t,d.trans t,Bx hB t,t.new⟩
theorem Sl.oc{α:Type}[GoT α]{v:Value}{l:List α}(a:Sl A w v l):v.oneCell'=true:=by obtain⟨_,_,e,_⟩:=Sl.form a;rw[e];rfl
theorem Hc{L:List Ob}{b:Nat}{cs:List Value}{t:TypeId}{u:Value}(j i:Nat)(c:Hp B A w L)(hi:L[i]?=some (obC b cs t):=by exact rfl)(a:cs[j]?=some u:=by exact rfl):w.cell? ⟨b,j,none⟩=some u:=Hp.cell c hi a
end
section
variable{P:Program}{n:Fr}{ops:Array Oper}{Q:Exit→Act→World→Prop}{rest:List Oper}{E:Env}{w:World}{B:Nat}{A:Nat→Prop}{L:List Ob}{ty t:TypeId}{x y:Operand}{pos:String}{af:Array Edge}
theorem Fc{w':World}{d:Option Nat}{g:Option (Nat×Bool)}{b off i:Nat}(a:Nat){c:Array Field}{f:Field}{sz:Nat}(e:P.underlying t=some (.struct c))(h:c[i]?=some f)(j:∀w,(Go.sizeOf f.type).run P w=.ok sz w)(k:ev E x=some (.pointer (some ⟨b,off,none⟩)):=by exact rfl)(l:off+f.offset=a:=by exact rfl)(m:sz≠0:=by decide):Y P n E ⟨d,.fieldAddr t x i,ty,pos,af,g⟩ w' (.pointer (some ⟨b,a,none⟩)) w':=znX e h j m k l
theorem Sc(Dw:Prop){b:Nat}{cs:List Value}{c:TypeId}{nv:Value}(off:Nat)(ds:List Value)(i:Nat)(f:Hp B A w L)(a:nv.oneCell'=true)(g:∀w,(Go.sizeOf t).run P w=.ok 1 w)(hB:B≤w.heap.size)(h:∀b,w.heap.size≤b→A b)(l:∀w1,Hp B A w1 (L.set i (obC b ds c))→Tr Dw B A w A w1→V P n ops Q rest E w1)(hi:L[i]?=some (obC b cs c):=by exact rfl)(j:ev E y=some nv:=by exact rfl)(k:ev E x=some (.pointer (some ⟨b,off,none⟩)):=by exact rfl)(d:Nat.ble (off+1) cs.length=true:=by exact rfl)(e:cs.take off++[nv]++cs.drop (off+1)=ds:=by exact rfl):V P n ops Q (⟨none,.store t x y,ty,pos,af,none⟩::rest) E w :=
 znc f hi g (by rw[← Array.length_toList,Value.cells_one a];rfl) (Nat.le_of_ble_eq_true d) (by intro u hu;rw[Value.cells_one a]at hu;simp at hu;subst hu;exact a) (by rw[Value.cells_one a];exact e) hB h k j l
end
class Cy_(Dw:Prop)(B:Nat)(A:Nat→Prop)(w:World)(A1:Nat→Prop)(w1:World)(p:Prop)(q:outParam Prop):Prop where f:Tr Dw B A w A1 w1→p→q
section
variable{B b off:Nat}{A A0 A1:Nat→Prop}{w w0 w1:World}{α:Type}[GoT α]{v:Value}
instance{l:List α}:Cy_ Dw B A w A1 w1 (Sl A w v l) (Sl A1 w1 v l):=⟨fun t h=>h.tr t⟩
instance{x:α}:Cy_ Dw B A w A1 w1 (El A w b off x) (El A1 w1 b off x):=⟨fun t h=>h.tr t⟩
instance:Cy_ Dw B A w A1 w1 (Vb A w b v) (Vb A1 w1 b v):=⟨fun t h=>h.tr (Dw:=Dw) t⟩
instance:Cy_ Dw B A w A1 w1 (Tr Dw B A0 w0 A w) (Tr Dw B A0 w0 A1 w1):=⟨fun t h=>h.trans t⟩
end
section
variable{B:Nat}{A A1:Nat→Prop}{w w1:World}{L:List Ob}{p1 q1 p2 q2 p3 q3 p4 q4 p5 q5 p6 q6 p7 q7 p8 q8 p9 q9 p10 q10 p11 q11 p12 q12:Prop}
variable[c1:Cy_ Dw B A w A1 w1 p1 q1]
variable[c2:Cy_ Dw B A w A1 w1 p2 q2]
variable[c3:Cy_ Dw B A w A1 w1 p3 q3]
variable[c4:Cy_ Dw B A w A1 w1 p4 q4]
variable[c5:Cy_ Dw B A w A1 w1 p5 q5]
variable[c6:Cy_ Dw B A w A1 w1 p6 q6]
variable[c7:Cy_ Dw B A w A1 w1 p7 q7]
variable[c8:Cy_ Dw B A w A1 w1 p8 q8]
variable[c9:Cy_ Dw B A w A1 w1 p9 q9]
variable[c10:Cy_ Dw B A w A1 w1 p10 q10]
variable[c11:Cy_ Dw B A w A1 w1 p11 q11]
variable[c12:Cy_ Dw B A w A1 w1 p12 q12]
theorem Cy2(t:Tr Dw B A w A1 w1)(a:p1)(b:p2):q1∧q2:=⟨c1.f t a,c2.f t b⟩
theorem Cy3(t:Tr Dw B A w A1 w1)(a:p1)(b:p2)(c:p3):q1∧q2∧q3:=⟨c1.f t a,c2.f t b,c3.f t c⟩
theorem Cy4(t:Tr Dw B A w A1 w1)(a:p1)(b:p2)(c:p3)(d:p4):q1∧q2∧q3∧q4:=⟨c1.f t a,c2.f t b,c3.f t c,c4.f t d⟩
theorem Cy5(t:Tr Dw B A w A1 w1)(a:p1)(b:p2)(c:p3)(d:p4)(e:p5):q1∧q2∧q3∧q4∧q5:=⟨c1.f t a,c2.f t b,c3.f t c,c4.f t d,c5.f t e⟩
theorem Cy6(t:Tr Dw B A w A1 w1)(a:p1)(b:p2)(c:p3)(d:p4)(e:p5)(f:p6):q1∧q2∧q3∧q4∧q5∧q6:=⟨c1.f t a,c2.f t b,c3.f t c,c4.f t d,c5.f t e,c6.f t f⟩
theorem Cy7(t:Tr Dw B A w A1 w1)(a:p1)(b:p2)(c:p3)(d:p4)(e:p5)(f:p6)(g:p7):q1∧q2∧q3∧q4∧q5∧q6∧q7:=⟨c1.f t a,c2.f t b,c3.f t c,c4.f t d,c5.f t e,c6.f t f,c7.f t g⟩
theorem Cy10(t:Tr Dw B A w A1 w1)(b:p1)(c:p2)(d:p3)(e:p4)(f:p5)(g:p6)(h:p7)(i:p8)(j:p9)(a:p10):q1∧q2∧q3∧q4∧q5∧q6∧q7∧q8∧q9∧q10:=⟨c1.f t b,c2.f t c,c3.f t d,c4.f t e,c5.f t f,c6.f t g,c7.f t h,c8.f t i,c9.f t j,c10.f t a⟩
theorem Cz0(t:Tr Dw B A w A1 w1)(hB:B≤w.heap.size):B≤w1.heap.size∧∀b,w1.heap.size≤b→A1 b:=⟨Bx hB t,t.new⟩
theorem Cz1(t:Tr Dw B A w A1 w1)(hB:B≤w.heap.size)(a:p1):q1∧B≤w1.heap.size∧∀b,w1.heap.size≤b→A1 b:=⟨c1.f t a,Bx hB t,t.new⟩
theorem Cz2(t:Tr Dw B A w A1 w1)(hB:B≤w.heap.size)(a:p1)(c:p2):q1∧q2∧B≤w1.heap.size∧∀b,w1.heap.size≤b→A1 b:=⟨c1.f t a,c2.f t c,Bx hB t,t.new⟩
theorem Cz3(t:Tr Dw B A w A1 w1)(hB:B≤w.heap.size)(a:p1)(c:p2)(d:p3):q1∧q2∧q3∧B≤w1.heap.size∧∀b,w1.heap.size≤b→A1 b:=⟨c1.f t a,c2.f t c,c3.f t d,Bx hB t,t.new⟩
theorem Cz4(t:Tr Dw B A w A1 w1)(hB:B≤w.heap.size)(a:p1)(c:p2)(d:p3)(e:p4):q1∧q2∧q3∧q4∧B≤w1.heap.size∧∀b,w1.heap.size≤b→A1 b:=⟨c1.f t a,c2.f t c,c3.f t d,c4.f t e,Bx hB t,t.new⟩
theorem Cz5(t:Tr Dw B A w A1 w1)(hB:B≤w.heap.size)(a:p1)(c:p2)(d:p3)(e:p4)(f:p5):q1∧q2∧q3∧q4∧q5∧B≤w1.heap.size∧∀b,w1.heap.size≤b→A1 b:=⟨c1.f t a,c2.f t c,c3.f t d,c4.f t e,c5.f t f,Bx hB t,t.new⟩
theorem Cz6(t:Tr Dw B A w A1 w1)(hB:B≤w.heap.size)(a:p1)(c:p2)(d:p3)(e:p4)(f:p5)(g:p6):q1∧q2∧q3∧q4∧q5∧q6∧B≤w1.heap.size∧∀b,w1.heap.size≤b→A1 b:=⟨c1.f t a,c2.f t c,c3.f t d,c4.f t e,c5.f t f,c6.f t g,Bx hB t,t.new⟩
theorem Cz7(t:Tr Dw B A w A1 w1)(hB:B≤w.heap.size)(a:p1)(c:p2)(d:p3)(e:p4)(f:p5)(g:p6)(h:p7):q1∧q2∧q3∧q4∧q5∧q6∧q7∧B≤w1.heap.size∧∀b,w1.heap.size≤b→A1 b:=⟨c1.f t a,c2.f t c,c3.f t d,c4.f t e,c5.f t f,c6.f t g,c7.f t h,Bx hB t,t.new⟩
theorem Cz8(t:Tr Dw B A w A1 w1)(hB:B≤w.heap.size)(a:p1)(c:p2)(d:p3)(e:p4)(f:p5)(g:p6)(h:p7)(i:p8):q1∧q2∧q3∧q4∧q5∧q6∧q7∧q8∧B≤w1.heap.size∧∀b,w1.heap.size≤b→A1 b:=⟨c1.f t a,c2.f t c,c3.f t d,c4.f t e,c5.f t f,c6.f t g,c7.f t h,c8.f t i,Bx hB t,t.new⟩
theorem Cz9(t:Tr Dw B A w A1 w1)(hB:B≤w.heap.size)(a:p1)(c:p2)(d:p3)(e:p4)(f:p5)(g:p6)(h:p7)(i:p8)(j:p9):q1∧q2∧q3∧q4∧q5∧q6∧q7∧q8∧q9∧B≤w1.heap.size∧∀b,w1.heap.size≤b→A1 b:=⟨c1.f t a,c2.f t c,c3.f t d,c4.f t e,c5.f t f,c6.f t g,c7.f t h,c8.f t i,c9.f t j,Bx hB t,t.new⟩
theorem Cz10(t:Tr Dw B A w A1 w1)(hB:B≤w.heap.size)(c:p1)(d:p2)(e:p3)(f:p4)(g:p5)(h:p6)(i:p7)(j:p8)(k:p9)(a:p10):q1∧q2∧q3∧q4∧q5∧q6∧q7∧q8∧q9∧q10∧B≤w1.heap.size∧∀b,w1.heap.size≤b→A1 b:=⟨c1.f t c,c2.f t d,c3.f t e,c4.f t f,c5.f t g,c6.f t h,c7.f t i,c8.f t j,c9.f t k,c10.f t a,Bx hB t,t.new⟩
theorem Cz11(t:Tr Dw B A w A1 w1)(hB:B≤w.heap.size)(d:p1)(e:p2)(f:p3)(g:p4)(h:p5)(i:p6)(j:p7)(k:p8)(l:p9)(a:p10)(c:p11):q1∧q2∧q3∧q4∧q5∧q6∧q7∧q8∧q9∧q10∧q11∧B≤w1.heap.size∧∀b,w1.heap.size≤b→A1 b:=⟨c1.f t d,c2.f t e,c3.f t f,c4.f t g,c5.f t h,c6.f t i,c7.f t j,c8.f t k,c9.f t l,c10.f t a,c11.f t c,Bx hB t,t.new⟩
end
section
variable{B:Nat}{A A1:Nat→Prop}{w w1:World}{L:List Ob}{p1 q1 p2 q2 p3 q3 p4 q4 p5 q5 p6 q6 p7 q7 p8 q8 p9 q9 p10 q10 p11 q11 p12 q12:Prop}
variable[c1:Cy_ Dw B A w A w1 p1 q1]
variable[c2:Cy_ Dw B A w A w1 p2 q2]
variable[c3:Cy_ Dw B A w A w1 p3 q3]
variable[c4:Cy_ Dw B A w A w1 p4 q4]
variable[c5:Cy_ Dw B A w A w1 p5 q5]
variable[c6:Cy_ Dw B A w A w1 p6 q6]
variable[c7:Cy_ Dw B A w A w1 p7 q7]
variable[c8:Cy_ Dw B A w A w1 p8 q8]
variable[c9:Cy_ Dw B A w A w1 p9 q9]
variable[c10:Cy_ Dw B A w A w1 p10 q10]
variable[c11:Cy_ Dw B A w A w1 p11 q11]
variable[c12:Cy_ Dw B A w A w1 p12 q12]
theorem Ch1(k:Kp Dw w w1)(a:∀b,w.heap.size≤b→A b)(hB:B≤w.heap.size)(c:Hp B A w L)(d:p1):q1∧Hp B A w1 L:=have t:=Kp.tr k a hB;⟨c1.f t d,c.kp k⟩
theorem Ch2(k:Kp Dw w w1)(a:∀b,w.heap.size≤b→A b)(hB:B≤w.heap.size)(c:Hp B A w L)(d:p1)(e:p2):q1∧q2∧Hp B A w1 L:=have t:=Kp.tr k a hB;⟨c1.f t d,c2.f t e,c.kp k⟩
theorem Ch3(k:Kp Dw w w1)(a:∀b,w.heap.size≤b→A b)(hB:B≤w.heap.size)(c:Hp B A w L)(d:p1)(e:p2)(f:p3):q1∧q2∧q3∧Hp B A w1 L:=have t:=Kp.tr k a hB;⟨c1.f t d,c2.f t e,c3.f t f,c.kp k⟩
theorem Ch5(k:Kp Dw w w1)(a:∀b,w.heap.size≤b→A b)(hB:B≤w.heap.size)(c:Hp B A w L)(d:p1)(e:p2)(f:p3)(g:p4)(h:p5):q1∧q2∧q3∧q4∧q5∧Hp B A w1 L:=have t:=Kp.tr k a hB;⟨c1.f t d,c2.f t e,c3.f t f,c4.f t g,c5.f t h,c.kp k⟩
theorem Ck1(k:Kp Dw w w1)(a:∀b,w.heap.size≤b→A b)(hB:B≤w.heap.size)(c:Hp B A w L)(d:p1):q1∧Hp B A w1 L∧B≤w1.heap.size∧∀b,w1.heap.size≤b→A b:=have t:=Kp.tr k a hB;⟨c1.f t d,c.kp k,Bx hB t,t.new⟩
theorem Ck2(k:Kp Dw w w1)(a:∀b,w.heap.size≤b→A b)(hB:B≤w.heap.size)(c:Hp B A w L)(d:p1)(e:p2):q1∧q2∧Hp B A w1 L∧B≤w1.heap.size∧∀b,w1.heap.size≤b→A b:=have t:=Kp.tr k a hB;⟨c1.f t d,c2.f t e,c.kp k,Bx hB t,t.new⟩
theorem Ck3(k:Kp Dw w w1)(a:∀b,w.heap.size≤b→A b)(hB:B≤w.heap.size)(c:Hp B A w L)(d:p1)(e:p2)(f:p3):q1∧q2∧q3∧Hp B A w1 L∧B≤w1.heap.size∧∀b,w1.heap.size≤b→A b:=have t:=Kp.tr k a hB;⟨c1.f t d,c2.f t e,c3.f t f,c.kp k,Bx hB t,t.new⟩
theorem Ck4(k:Kp Dw w w1)(a:∀b,w.heap.size≤b→A b)(hB:B≤w.heap.size)(c:Hp B A w L)(d:p1)(e:p2)(f:p3)(g:p4):q1∧q2∧q3∧q4∧Hp B A w1 L∧B≤w1.heap.size∧∀b,w1.heap.size≤b→A b:=have t:=Kp.tr k a hB;⟨c1.f t d,c2.f t e,c3.f t f,c4.f t g,c.kp k,Bx hB t,t.new⟩
theorem Ck5(k:Kp Dw w w1)(a:∀b,w.heap.size≤b→A b)(hB:B≤w.heap.size)(c:Hp B A w L)(d:p1)(e:p2)(f:p3)(g:p4)(h:p5):q1∧q2∧q3∧q4∧q5∧Hp B A w1 L∧B≤w1.heap.size∧∀b,w1.heap.size≤b→A b:=have t:=Kp.tr k a hB;⟨c1.f t d,c2.f t e,c3.f t f,c4.f t g,c5.f t h,c.kp k,Bx hB t,t.new⟩
theorem Ck6(k:Kp Dw w w1)(a:∀b,w.heap.size≤b→A b)(hB:B≤w.heap.size)(c:Hp B A w L)(d:p1)(e:p2)(f:p3)(g:p4)(h:p5)(i:p6):q1∧q2∧q3∧q4∧q5∧q6∧Hp B A w1 L∧B≤w1.heap.size∧∀b,w1.heap.size≤b→A b:=have t:=Kp.tr k a hB;⟨c1.f t d,c2.f t e,c3.f t f,c4.f t g,c5.f t h,c6.f t i,c.kp k,Bx hB t,t.new⟩
theorem Ck7(k:Kp Dw w w1)(a:∀b,w.heap.size≤b→A b)(hB:B≤w.heap.size)(c:Hp B A w L)(d:p1)(e:p2)(f:p3)(g:p4)(h:p5)(i:p6)(j:p7):q1∧q2∧q3∧q4∧q5∧q6∧q7∧Hp B A w1 L∧B≤w1.heap.size∧∀b,w1.heap.size≤b→A b:=have t:=Kp.tr k a hB;⟨c1.f t d,c2.f t e,c3.f t f,c4.f t g,c5.f t h,c6.f t i,c7.f t j,c.kp k,Bx hB t,t.new⟩
theorem Ck8(k:Kp Dw w w1)(a:∀b,w.heap.size≤b→A b)(hB:B≤w.heap.size)(c:Hp B A w L)(d:p1)(e:p2)(f:p3)(g:p4)(h:p5)(i:p6)(j:p7)(l:p8):q1∧q2∧q3∧q4∧q5∧q6∧q7∧q8∧Hp B A w1 L∧B≤w1.heap.size∧∀b,w1.heap.size≤b→A b:=have t:=Kp.tr k a hB;⟨c1.f t d,c2.f t e,c3.f t f,c4.f t g,c5.f t h,c6.f t i,c7.f t j,c8.f t l,c.kp k,Bx hB t,t.new⟩
theorem Ck9(k:Kp Dw w w1)(a:∀b,w.heap.size≤b→A b)(hB:B≤w.heap.size)(c:Hp B A w L)(d:p1)(e:p2)(f:p3)(g:p4)(h:p5)(i:p6)(j:p7)(l:p8)(m:p9):q1∧q2∧q3∧q4∧q5∧q6∧q7∧q8∧q9∧Hp B A w1 L∧B≤w1.heap.size∧∀b,w1.heap.size≤b→A b:=have t:=Kp.tr k a hB;⟨c1.f t d,c2.f t e,c3.f t f,c4.f t g,c5.f t h,c6.f t i,c7.f t j,c8.f t l,c9.f t m,c.kp k,Bx hB t,t.new⟩
theorem Ck11(k:Kp Dw w w1)(d:∀b,w.heap.size≤b→A b)(hB:B≤w.heap.size)(e:Hp B A w L)(f:p1)(g:p2)(h:p3)(i:p4)(j:p5)(l:p6)(m:p7)(n:p8)(o:p9)(a:p10)(c:p11):q1∧q2∧q3∧q4∧q5∧q6∧q7∧q8∧q9∧q10∧q11∧Hp B A w1 L∧B≤w1.heap.size∧∀b,w1.heap.size≤b→A b:=have t:=Kp.tr k d hB;⟨c1.f t f,c2.f t g,c3.f t h,c4.f t i,c5.f t j,c6.f t l,c7.f t m,c8.f t n,c9.f t o,c10.f t a,c11.f t c,e.kp k,Bx hB t,t.new⟩
theorem Ck12(k:Kp Dw w w1)(e:∀b,w.heap.size≤b→A b)(hB:B≤w.heap.size)(f:Hp B A w L)(g:p1)(h:p2)(i:p3)(j:p4)(l:p5)(m:p6)(n:p7)(o:p8)(p:p9)(a:p10)(c:p11)(d:p12):q1∧q2∧q3∧q4∧q5∧q6∧q7∧q8∧q9∧q10∧q11∧q12∧Hp B A w1 L∧B≤w1.heap.size∧∀b,w1.heap.size≤b→A b:=have t:=Kp.tr k e hB;⟨c1.f t g,c2.f t h,c3.f t i,c4.f t j,c5.f t l,c6.f t m,c7.f t n,c8.f t o,c9.f t p,c10.f t a,c11.f t c,c12.f t d,f.kp k,Bx hB t,t.new⟩
end
section
variable{P:Program}{n:Fr}{ops:Array Oper}{Q:Exit→Act→World→Prop}{rest:List Oper}{E:Env}{w:World}{v:Value}{fn:Func}{R:Value→World→Prop}{x y:Code}{Qx:Exit→Act→World→Prop}{a:Act}{f:FuncId}{c:Code}{args:Array Value}
theorem Ca_(d:C P n y Q E w)(b:Has n a E)(c:∀a w,Qx .normal a w=y.wpIn (FR n.ro) 0 P Q a w:=by exact fun _ _=>rfl):Qx .normal a w:=C_at c d b
theorem R1_{t:Tmp}(c:fn.results=#[.tmp t])(d:R v w)(e:E.get t=some v:=by exact rfl)(f:∀a,Q .ret a w=zir P fn R .ret a w:=by intro _;(try simp only[↓ib, ↓th]);first | done | exact rfl)(b:n.ds=[]:=by exact rfl):C P n .ret Q E w:=Rt (Res.one c e) d f b
theorem En_{k:Nat}(b:P.funcs[f]?=some fn)(d:fn.ntmps=k)(g:C P ⟨k, [],none⟩ c (zir P fn R) (ziU 0 args.toList) w)(e:fn.body=some c:=by exact rfl)(a:Nat.ble args.size k=true:=by exact rfl):Ret P f args w R:=enter b e d a g
theorem Cd_{α:Type}{o:Operand}{b:Bool}{i:Decidable (b=true)}{X Y r:α}(a:@ite α (b=true) i X Y=r)(c:b=true→X=r→C P n x Q E w)(d:b=false→Y=r→C P n y Q E w)(f:ev E o=some (.bool b):=by exact rfl):C P n (.cond o x y) Q E w :=
  zll f (fun e=>c e (by rwa[if_pos e]at a)) (fun e=>d e (by rwa[if_neg (nt e)]at a))
end
section
variable{P:Program}{n:Fr}{ops:Array Oper}{Q:Exit→Act→World→Prop}{rest:List Oper}{E:Env}{w:World}{B:Nat}{A:Nat→Prop}{L:List Ob}{ty t e:TypeId}{x y:Operand}{pos:String}{af:Array Edge}{α:Type}[GoT α]{d:Nat}{zv v u:Value}
theorem Bl_(Dw:Prop){len:Nat}{a:Array (Nat×Operand)}{vs:List Value}(cells:Array Value)(l:List α)(f:P.underlying t=some (.slice e))(g:∀w,(Go.sizeOf e).run P w=.ok (GoT.cells α) w)(h:∀w,(zeroValue e).run P w=.ok zv w)(i:evs E (a.toList.map (·.2))=some vs)(j:Instr.fill (fun q=>some (q*GoT.cells α,GoT.cells α)) ((Array.range (len*GoT.cells α)).map (zv.cells[· % zv.cells.size]!)) ((a.toList.map (·.1)).zip vs)=some cells)(k:∀b,w.heap.size≤b→A b)(m:repL A w cells.toList l)(r:∀v w1,Kp Dw w w1→Sl A w1 v l→V P n ops Q rest ((d,v)::E) w1)(o:Nat.ble 1 (len*GoT.cells α)=true:=by exact rfl)(c:Nat.ble (len*GoT.cells α) (2^24)=true:=by exact rfl)(hlen:l.length=len:=by exact rfl)(p:Nat.blt d n.sz=true:=by exact rfl):
    V P n ops Q (⟨some d,.buildSlice t len a,ty,pos,af,none⟩::rest) E w:=zgK f g h i j (Nat.ne_of_gt (Nat.le_of_ble_eq_true o)) (Nat.le_of_ble_eq_true c) k m hlen p r
theorem Ap_(Dw:Prop)(i:Nat){l m r:List α}{lim bytes:Nat}{ti:TypeInfo}(p:Hp B A w L)(q:Sl A w u m)(s:zC lim l m=some r)(z:P.underlying t=some (.slice e))(g:P.info? e=some ti)(hB:B≤w.heap.size)(D:∀b,w.heap.size≤b→A b)(J:∀a w1 A1,Hp B A1 w1 (L.set i (obS e a r))→Tr Dw B A w A1 w1→V P n ops Q rest ((d,a)::E) w1)(hi:L[i]?=some (obS e v l):=by exact rfl)(F:ti.zero=some zv:=by exact rfl)(c:ti.size=GoT.cells α:=by exact rfl)(h:ti.bytes=bytes:=by exact rfl)(j:zv.cells.size=GoT.cells α:=by exact rfl)(k:GoT.cells α≠0:=by decide)(f:lim*bytes≤140737488355328:=by decide)(o:lim≤maxLen:=by decide)(G:ev E x=some v:=by exact rfl)(H:ev E y=some u:=by exact rfl)(I:Nat.blt d n.sz=true:=by exact rfl):
    V P n ops Q (⟨some d,.call ⟨.builtin .append,#[x,y],#[t,t]⟩,ty,pos,af,none⟩::rest) E w:=zms p hi q s z g F c h j k f o hB D G H I J
theorem Sd_(Dw:Prop){b sz:Nat}{cs:List Value}{a:TypeId}{nv:Value}(off:Nat)(ds:List Value)(i:Nat)(g:Hp B A w L)(h:∀w,(Go.sizeOf t).run P w=.ok sz w)(hB:B≤w.heap.size)(j:∀b,w.heap.size≤b→A b)(m:∀w1,Hp B A w1 (L.set i (obC b ds a))→Tr Dw B A w A w1→V P n ops Q rest E w1)(hi:L[i]?=some (obC b cs a):=by exact rfl)(k:ev E y=some nv:=by exact rfl)(l:ev E x=some (.pointer (some ⟨b,off,none⟩)):=by exact rfl)(e:nv.cells.size=sz:=by exact rfl)(c:Nat.ble (off+sz) cs.length=true:=by exact rfl)(f:cs.take off++nv.cells.toList++cs.drop (off+sz)=ds:=by exact rfl)(d:∀u∈nv.cells.toList,u.oneCell'=true:=by repeat (first | exact List.forall_mem_nil _ | refine List.forall_mem_cons.2 ⟨(by first | exact rfl | assumption),?_⟩)):
    V P n ops Q (⟨none,.store t x y,ty,pos,af,none⟩::rest) E w:=znc g hi h e (Nat.le_of_ble_eq_true c) d f hB j l k m
end
theorem Rf_{B:Nat}{A:Nat→Prop}{w:World}(Dw:Prop)(hB:B≤w.heap.size)(a:∀b,w.heap.size≤b→A b):Tr Dw B A w A w:=Tr.refl a
end Go.Gw
