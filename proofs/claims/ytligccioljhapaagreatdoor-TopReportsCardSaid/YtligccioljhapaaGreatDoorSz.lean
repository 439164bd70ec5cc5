import Derived.Test.YtligccioljhapaaGreatDoorGw
import Derived.Test.YtligccioljhapaaGreatDoorGs
import Derived.Test.YtligccioljhapaaGreatDoorGh
namespace Go.Gw
open Go Go.RowKit Go.Pu
variable{Dw:Prop}
set_option linter.unusedVariables false
abbrev Ii(x:Int):Value := .int .i64 x
abbrev Pt(b:Nat):Value := .pointer (some ⟨b,0,none⟩)
theorem Be(b:Bool):b=true∨b=false:=Bool.eq_false_or_eq_true b
theorem Bs{α β:Type}{x:Option α}{f:α→Option β}{b:β}(c:Option.bind x f=some b):∃a,x=some a∧f a=some b:=Option.bind_eq_some_iff.1 c
theorem Oi{α:Type}{a b:α}(c:some a=some b):a=b:=Option.some.inj c
section
variable{P:Program}{n:Fr}{ops:Array Oper}{Q:Exit→Act→World→Prop}{rest:List Oper}{E:Env}{w:World}{d:Nat}{ty t:TypeId}{pos:String}{af:Array Edge}{x:Operand}{v:Value}{W:World→Prop}{QA:Act→Prop}{o:Oper}
theorem Mm(c:V P n ops Q rest ((d,v)::E) w)(a:ev E x=some v:=by exact rfl)(b:Nat.blt d n.sz=true:=by exact rfl):V P n ops Q (⟨some d,.move x,ty,pos,af,none⟩::rest) E w:=V_y (zlc a) rfl rfl b c
theorem As(c:V P n ops Q rest ((d,v)::E) w)(a:ev E x=some v:=by exact rfl)(b:Nat.blt d n.sz=true:=by exact rfl):V P n ops Q (⟨some d,.assign x,ty,pos,af,none⟩::rest) E w:=V_y (zjn a) rfl rfl b c
theorem Qm(c:VQ P n ops W QA rest ((d,v)::E))(a:ev E x=some v:=by exact rfl)(b:Nat.blt d n.sz=true:=by exact rfl):VQ P n ops W QA (⟨some d,.move x,ty,pos,af,none⟩::rest) E:=VQ_y (fun _ _=>zlc a) rfl rfl b c
theorem Qa(c:VQ P n ops W QA rest ((d,v)::E))(a:ev E x=some v:=by exact rfl)(b:Nat.blt d n.sz=true:=by exact rfl):VQ P n ops W QA (⟨some d,.assign x,ty,pos,af,none⟩::rest) E:=VQ_y (fun _ _=>zjn a) rfl rfl b c
theorem Nc{a:Addr}(e:V P n ops Q rest ((d,.pointer (some a))::E) w)(b:ev E x=some (.pointer (some a)):=by exact rfl)(c:Nat.blt d n.sz=true:=by exact rfl):V P n ops Q (⟨some d,.nilCheck x,ty,pos,af,none⟩::rest) E w:=V_y (zhb b) rfl rfl c e
theorem Fa{b off i:Nat}{fs:Array Field}{f:Field}{sz:Nat}(a:P.underlying t=some (.struct fs))(c:fs[i]?=some f)(e:∀w,(Go.sizeOf f.type).run P w=.ok sz w)(l:V P n ops Q rest ((d,.pointer (some ⟨b,off+f.offset,none⟩))::E) w)(g:sz≠0:=by decide)(h:ev E x=some (.pointer (some ⟨b,off,none⟩)):=by exact rfl)(j:Nat.blt d n.sz=true:=by exact rfl):V P n ops Q (⟨some d,.fieldAddr t x i,ty,pos,af,none⟩::rest) E w:=V_y (zex a c e g h) rfl rfl j l
theorem Qf{b off i:Nat}{fs:Array Field}{f:Field}{sz:Nat}(a:P.underlying t=some (.struct fs))(c:fs[i]?=some f)(e:∀w,(Go.sizeOf f.type).run P w=.ok sz w)(l:VQ P n ops W QA rest ((d,.pointer (some ⟨b,off+f.offset,none⟩))::E))(g:sz≠0:=by decide)(h:ev E x=some (.pointer (some ⟨b,off,none⟩)):=by exact rfl)(j:Nat.blt d n.sz=true:=by exact rfl):VQ P n ops W QA (⟨some d,.fieldAddr t x i,ty,pos,af,none⟩::rest) E:=VQ_y (fun _ _=>zex a c e g h) rfl rfl j l
theorem Ld{b off:Nat}(a:w.cell? ⟨b,off,none⟩=some v)(c:∀w,(isAgg t).run P w=.ok false w)(g:V P n ops Q rest ((d,v)::E) w)(e:ev E x=some (.pointer (some ⟨b,off,none⟩)):=by exact rfl)(f:Nat.blt d n.sz=true:=by exact rfl):V P n ops Q (⟨some d,.load t x,ty,pos,af,none⟩::rest) E w:=V_y (zfO a c e) rfl rfl f g
theorem Ql{b off:Nat}(a:∀w,W w→w.cell? ⟨b,off,none⟩=some v)(c:∀w,(isAgg t).run P w=.ok false w)(h:VQ P n ops W QA rest ((d,v)::E))(e:ev E x=some (.pointer (some ⟨b,off,none⟩)):=by exact rfl)(f:Nat.blt d n.sz=true:=by exact rfl):VQ P n ops W QA (⟨some d,.load t x,ty,pos,af,none⟩::rest) E:=VQ_y (fun w g=>zfO (a w g) c e) rfl rfl f h
theorem To{b:Exit→Act→World→Prop}{y:Code}(d:C P n y Q E w)(c:∀a w,b .normal a w=y.wpIn (FR n.ro) 0 P Q a w:=by exact fun _ _=>rfl):V P n ops b [] E w:=V_to c d
theorem Gm{f:Op}{j e:Nat}{a b c:Bool}(g:b=c)(o:V P n ops Q rest ((d,undef)::E) w)(h:zbl ops j=some e:=by exact rfl)(i:E.get e=some (.bool b):=by exact rfl)(l:(c==a)=false:=by exact rfl)(m:Nat.blt d n.sz=true:=by exact rfl):V P n ops Q (⟨some d,f,ty,pos,af,some (j,a)⟩::rest) E w:=V_gn rfl h i g l rfl m o
theorem Qg{f:Op}{j e:Nat}{a b c:Bool}(g:b=c)(o:VQ P n ops W QA rest ((d,undef)::E))(h:zbl ops j=some e:=by exact rfl)(i:E.get e=some (.bool b):=by exact rfl)(l:(c==a)=false:=by exact rfl)(m:Nat.blt d n.sz=true:=by exact rfl):VQ P n ops W QA (⟨some d,f,ty,pos,af,some (j,a)⟩::rest) E:=znn rfl h i g l rfl m o
theorem Gf{c:Op}{d:Option Nat}{j e:Nat}{a b:Bool}(f:b=a)(i:V P n ops Q (⟨d,c,ty,pos,af,none⟩::rest) E w)(g:zbl ops j=some e:=by exact rfl)(h:E.get e=some (.bool b):=by exact rfl):V P n ops Q (⟨d,c,ty,pos,af,some (j,a)⟩::rest) E w:=V_ge rfl g h f i
theorem Qh{c:Op}{d:Option Nat}{j e:Nat}{a b:Bool}(f:b=a)(i:VQ P n ops W QA (⟨d,c,ty,pos,af,none⟩::rest) E)(g:zbl ops j=some e:=by exact rfl)(h:E.get e=some (.bool b):=by exact rfl):VQ P n ops W QA (⟨d,c,ty,pos,af,some (j,a)⟩::rest) E:=znr rfl g h f i
end
section
variable{P:Program}{n:Fr}{Q:Exit→Act→World→Prop}{E:Env}{w:World}{x y:Code}{id:Nat}{l:List Oper}
theorem Sr(b:V P n l.toArray (Exit.then (fun a w=>y.wpIn (FR n.ro) 0 P Q a w) Q) l E w):C P n (.seq (.region id l.toArray false) y) Q E w:=zm (zu b)
end
section
variable{P:Program}{n:Fr}{ops:Array Oper}{Q:Exit→Act→World→Prop}{rest:List Oper}{E:Env}{w w':World}{d:Nat}{ty t:TypeId}{pos:String}{af:Array Edge}{x:Operand}{v:Value}{W:World→Prop}{QA:Act→Prop}{o:Oper}
theorem Vy{a:Op}(b:Y P n E ⟨some d,a,ty,pos,af,none⟩ w v w')(e:V P n ops Q rest ((d,v)::E) w')(c:Nat.blt d n.sz=true:=by exact rfl):V P n ops Q (⟨some d,a,ty,pos,af,none⟩::rest) E w:=V_y b rfl rfl c e
theorem Qv{a:Op}(b:∀w,W w→Y P n E ⟨some d,a,ty,pos,af,none⟩ w v w)(e:VQ P n ops W QA rest ((d,v)::E))(c:Nat.blt d n.sz=true:=by exact rfl):VQ P n ops W QA (⟨some d,a,ty,pos,af,none⟩::rest) E:=VQ_y b rfl rfl c e
theorem Qn{a:Addr}(e:VQ P n ops W QA rest ((d,.pointer (some a))::E))(b:ev E x=some (.pointer (some a)):=by exact rfl)(c:Nat.blt d n.sz=true:=by exact rfl):VQ P n ops W QA (⟨some d,.nilCheck x,ty,pos,af,none⟩::rest) E:=VQ_y (fun _ _=>zhb b) rfl rfl c e
theorem Qc{b off:Nat}(a:w.cell? ⟨b,off,none⟩=some v)(e:∀w,(isAgg t).run P w=.ok false w)(h:VQ P n ops (fun w'=>Kp Dw w w') QA rest ((d,v)::E))(f:ev E x=some (.pointer (some ⟨b,off,none⟩)):=by exact rfl)(g:Nat.blt d n.sz=true:=by exact rfl):VQ P n ops (fun w'=>Kp Dw w w') QA (⟨some d,.load t x,ty,pos,af,none⟩::rest) E :=
 VQ_y (fun w' c=>zfO ((World.cell?_of_block (c.block _ (World.block_lt_of_cell? _ _ a))).trans a) e f) rfl rfl g h
theorem Qi{A:Nat→Prop}{b off:Nat}{i:Int}(c:El A w b off i)(e:∀w,(isAgg t).run P w=.ok false w)(h:VQ P n ops (fun w'=>Kp Dw w w') QA rest ((d,.int .i64 i)::E))(f:ev E x=some (.pointer (some ⟨b,off,none⟩)):=by exact rfl)(g:Nat.blt d n.sz=true:=by exact rfl):VQ P n ops (fun w'=>Kp Dw w w') QA (⟨some d,.load t x,ty,pos,af,none⟩::rest) E :=
 VQ_y (fun w' a=>zfO (El.int (El.kp (Dw:=Dw) c a)) e f) rfl rfl g h
end
theorem Hf{B:Nat}{A:Nat→Prop}{w:World}{L:List Ob}{a:Ob}(i:Nat)(b:Hp B A w L)(hi:L[i]?=some a:=by exact rfl):Hp B A w (a::L.eraseIdx i):=Hp.front b hi
theorem Hd{B:Nat}{A:Nat→Prop}{w:World}{L:List Ob}{a:Ob}(i:Nat)(b:Hp B A w L)(hi:L[i]?=some a:=by exact rfl):Hp B A w (L.eraseIdx i):=Hp.drop b hi
theorem Bx{B:Nat}{A b:Nat→Prop}{w a:World}(c:B≤w.heap.size)(t:Tr Dw B A w b a):B≤a.heap.size:=Nat.le_trans c t.ex.size
theorem Tt{B:Nat}{A a b:Nat→Prop}{w c d:World}(e:Tr Dw B A w a c)(t:Tr Dw B a c b d):Tr Dw B A w b d:=Tr.trans e t
section
variable{P:Program}{n:Fr}{a:Act}{E E':Env}{w:World}
theorem Has.sb(c:Has n a E)(b:subE E' E:=by repeat (first | exact trivial | refine⟨rfl,?_⟩)):Has n a E':=c.sub b
theorem ib{id:Nat}{b:Exit→Act→World→Prop}:Exit.inBlock id b .ret a w=b .ret a w:=rfl
theorem th{c:Act→World→Prop}{b:Exit→Act→World→Prop}:Exit.then c b .ret a w=b .ret a w:=rfl
end
section
variable{P:Program}{n:Fr}{ops:Array Oper}{Q:Exit→Act→World→Prop}{rest:List Oper}{E:Env}{w w':World}{d:Nat}{ty t e:TypeId}{pos:String}{af:Array Edge}{x y:Operand}{v:Value}
theorem Sn{w0:World}{b:Nat}{cs:Array Value}{sz:Nat}(d:NewB w0 w b cs e)(f:∀w,(Go.sizeOf t).run P w=.ok sz w)(l:∀a,NewB w0 a b v.cells e→V P n ops Q rest E a)(g:ev E y=some v:=by exact rfl)(h:ev E x=some (.pointer (some ⟨b,0,none⟩)):=by exact rfl)(i:v.cells.size=sz:=by exact rfl)(j:cs.size=sz:=by exact rfl)(c:∀m∈v.cells.toList,m.oneCell'=true:=by repeat (first | exact List.forall_mem_nil _ | refine List.forall_mem_cons.2 ⟨(by first | exact rfl | assumption),?_⟩)):V P n ops Q (⟨none,.store t x y,ty,pos,af,none⟩::rest) E w:=zkC d f g h i j c l
theorem Vc{f:FuncId}{b:Operand}{a:Array Operand}{g:Array TypeId}{vs:List Value}{cap fst vals:Array Value}{R:Value→World→Prop}(c:∀(a:Array Value) (w:World),(callFunc f a).run P w=.ok (.enter f a) w)(h:Ret P f vals w R)(m:∀v w',R v w'→V P n ops Q rest ((d,v)::E) w')(i:ev E b=some (.func (.func f) fst cap):=by exact rfl)(j:evs E a.toList=some vs:=by exact rfl)(e:fst++vs.toArray++cap=vals:=by exact rfl)(l:Nat.blt d n.sz=true:=by exact rfl):V P n ops Q (⟨some d,.call ⟨.value b,a,g⟩,ty,pos,af,none⟩::rest) E w:=zlQ c i j e l h m
theorem Sk{b:Exit→Act→World→Prop}{y:Code}(d:C P n y Q E w)(c:∀a w,b .normal a w=y.wpIn (FR n.ro) 0 P Q a w:=by exact fun _ _=>rfl):C P n .skip b E w:=zlC c d
end
theorem St{A:Nat→Prop}{w:World}(b:∀a,w.heap.size≤a→A a):w.heap.size≤w.heap.size∧Tr Dw w.heap.size A w A w∧Hp w.heap.size A w []:=⟨Nat.le_refl _,Tr.refl b,Hp.nil⟩
section
variable{P:Program}{n:Fr}{ops:Array Oper}{Q:Exit→Act→World→Prop}{rest:List Oper}{E:Env}{w:World}{d:Nat}{ty t:TypeId}{pos:String}{af:Array Edge}{x:Operand}{v:Value}{fn:Func}{R:Value→World→Prop}
theorem Rt(c:Res P fn E n w v)(d:R v w)(e:∀a,Q .ret a w=zeL P fn R .ret a w:=by intro _;(try simp only[↓ib, ↓th]);first | done | exact rfl)(b:n.ds=[]:=by exact rfl):C P n .ret Q E w:=Jc fun a f=>by rw[e];exact retQ b c d a f
theorem Li{A:Nat→Prop}{b off:Nat}{i:Int}(a:El A w b off i)(c:∀w,(isAgg t).run P w=.ok false w)(g:V P n ops Q rest ((d,.int .i64 i)::E) w)(e:ev E x=some (.pointer (some ⟨b,off,none⟩)):=by exact rfl)(f:Nat.blt d n.sz=true:=by exact rfl):V P n ops Q (⟨some d,.load t x,ty,pos,af,none⟩::rest) E w:=V_y (zfO (El.int a) c e) rfl rfl f g
theorem Cc{o:Operand}{b:Bool}{x y:Code}(a:b=true→C P n x Q E w)(c:b=false→C P n y Q E w)(d:ev E o=some (.bool b):=by exact rfl):C P n (.cond o x y) Q E w:=zlp d a c
end
theorem Ws{k a:Nat}(c:k<a)(b:a≤maxLen):some (Value.int .i64 (w64 ((k:Int)+1)))=some (Value.int .i64 ((k+1:Nat):Int)):=by rw[zmd c b]
end Go.Gw
namespace Go.Gw
open Go Go.RowKit Go.Pu
variable{Dw:Prop}
set_option linter.unusedVariables false
section
variable{B:Nat}{A A0 A1:Nat→Prop}{w w0 w1:World}
theorem U1{α1:Type}[GoT α1]{a:Value}{l1:List α1}(t:Tr Dw B A w A1 w1)(c:Tr Dw B A0 w0 A w)(hB:B≤w.heap.size)(d:Sl A w a l1):Sl A1 w1 a l1∧Tr Dw B A0 w0 A1 w1∧B≤w1.heap.size∧∀b,w1.heap.size≤b→A1 b:=⟨d.tr t,c.trans t,Bx hB t,t.new⟩
theorem U2{α1 α2:Type}[GoT α1][GoT α2]{a c:Value}{l1:List α1}{l2:List α2}(t:Tr Dw B A w A1 w1)(d:Tr Dw B A0 w0 A w)(hB:B≤w.heap.size)(e:Sl A w a l1)(f:Sl A w c l2):Sl A1 w1 a l1∧Sl A1 w1 c l2∧Tr Dw B A0 w0 A1 w1∧B≤w1.heap.size∧∀b,w1.heap.size≤b→A1 b:=⟨e.tr t,f.tr t,d.trans t,Bx hB t,t.new⟩
theorem Sl.oc{α:Type}[GoT α]{v:Value}{l:List α}(a:Sl A w v l):v.oneCell'=true:=by obtain⟨_,_,e,_⟩:=Sl.form a;rw[e];rfl
theorem Hc{L:List Ob}{b:Nat}{cs:List Value}{t:TypeId}{u:Value}(j i:Nat)(c:Hp B A w L)(hi:L[i]?=some (obC b cs t):=by exact rfl)(a:cs[j]?=some u:=by exact rfl):w.cell? ⟨b,j,none⟩=some u:=Hp.cell c hi a
end
section
variable{P:Program}{n:Fr}{ops:Array Oper}{Q:Exit→Act→World→Prop}{rest:List Oper}{E:Env}{w:World}{B:Nat}{A:Nat→Prop}{L:List Ob}{ty t:TypeId}{x y:Operand}{pos:String}{af:Array Edge}
theorem Fc{w':World}{d:Option Nat}{g:Option (Nat×Bool)}{b off i:Nat}(a:Nat){fs:Array Field}{f:Field}{sz:Nat}(c:P.underlying t=some (.struct fs))(e:fs[i]?=some f)(h:∀w,(Go.sizeOf f.type).run P w=.ok sz w)(j:ev E x=some (.pointer (some ⟨b,off,none⟩)):=by exact rfl)(l:off+f.offset=a:=by exact rfl)(m:sz≠0:=by decide):Y P n E ⟨d,.fieldAddr t x i,ty,pos,af,g⟩ w' (.pointer (some ⟨b,a,none⟩)) w':=zjs c e h m j l
theorem Sc(Dw:Prop){b:Nat}{cs:List Value}{c:TypeId}{nv:Value}(off:Nat)(ds:List Value)(i:Nat)(f:Hp B A w L)(a:nv.oneCell'=true)(g:∀w,(Go.sizeOf t).run P w=.ok 1 w)(hB:B≤w.heap.size)(h:∀b,w.heap.size≤b→A b)(m:∀w1,Hp B A w1 (L.set i (obC b ds c))→Tr Dw B A w A w1→V P n ops Q rest E w1)(hi:L[i]?=some (obC b cs c):=by exact rfl)(j:ev E y=some nv:=by exact rfl)(l:ev E x=some (.pointer (some ⟨b,off,none⟩)):=by exact rfl)(d:Nat.ble (off+1) cs.length=true:=by exact rfl)(e:cs.take off++[nv]++cs.drop (off+1)=ds:=by exact rfl):V P n ops Q (⟨none,.store t x y,ty,pos,af,none⟩::rest) E w :=
 zjF f hi g (by rw[← Array.length_toList,Value.cells_one a];rfl) (Nat.le_of_ble_eq_true d) (by intro u hu;rw[Value.cells_one a]at hu;simp at hu;subst hu;exact a) (by rw[Value.cells_one a];exact e) hB h l j m
end
class Cy_(Dw:Prop)(B:Nat)(A:Nat→Prop)(w:World)(A1:Nat→Prop)(w1:World)(p:Prop)(q:outParam Prop):Prop where f:Tr Dw B A w A1 w1→p→q
section
variable{B b off:Nat}{A A0 A1:Nat→Prop}{w w0 w1:World}{α:Type}[GoT α]{v:Value}
instance{l:List α}:Cy_ Dw B A w A1 w1 (Sl A w v l) (Sl A1 w1 v l):=⟨fun t h=>h.tr t⟩
instance{x:α}:Cy_ Dw B A w A1 w1 (El A w b off x) (El A1 w1 b off x):=⟨fun t h=>h.tr t⟩
instance:Cy_ Dw B A w A1 w1 (Vb A w b v) (Vb A1 w1 b v):=⟨fun t h=>h.tr (Dw:=Dw) t⟩
instance:Cy_ Dw B A w A1 w1 (Tr Dw B A0 w0 A w) (Tr Dw B A0 w0 A1 w1):=⟨fun t h=>h.trans t⟩
end
section
variable{B:Nat}{A A1:Nat→Prop}{w w1:World}{L:List Ob}{p1 q1 p2 q2 p3 q3 p4 q4 p5 q5 p6 q6 p7 q7 p8 q8 p9 q9:Prop}
variable[c1:Cy_ Dw B A w A1 w1 p1 q1]
variable[c2:Cy_ Dw B A w A1 w1 p2 q2]
variable[c3:Cy_ Dw B A w A1 w1 p3 q3]
variable[c4:Cy_ Dw B A w A1 w1 p4 q4]
variable[c5:Cy_ Dw B A w A1 w1 p5 q5]
variable[c6:Cy_ Dw B A w A1 w1 p6 q6]
variable[c7:Cy_ Dw B A w A1 w1 p7 q7]
variable[c8:Cy_ Dw B A w A1 w1 p8 q8]
variable[c9:Cy_ Dw B A w A1 w1 p9 q9]
theorem Cy2(t:Tr Dw B A w A1 w1)(a:p1)(b:p2):q1∧q2:=⟨c1.f t a,c2.f t b⟩
theorem Cy3(t:Tr Dw B A w A1 w1)(a:p1)(b:p2)(c:p3):q1∧q2∧q3:=⟨c1.f t a,c2.f t b,c3.f t c⟩
theorem Cy4(t:Tr Dw B A w A1 w1)(a:p1)(b:p2)(c:p3)(d:p4):q1∧q2∧q3∧q4:=⟨c1.f t a,c2.f t b,c3.f t c,c4.f t d⟩
theorem Cz0(t:Tr Dw B A w A1 w1)(hB:B≤w.heap.size):B≤w1.heap.size∧∀b,w1.heap.size≤b→A1 b:=⟨Bx hB t,t.new⟩
theorem Cz1(t:Tr Dw B A w A1 w1)(hB:B≤w.heap.size)(a:p1):q1∧B≤w1.heap.size∧∀b,w1.heap.size≤b→A1 b:=⟨c1.f t a,Bx hB t,t.new⟩
theorem Cz2(t:Tr Dw B A w A1 w1)(hB:B≤w.heap.size)(a:p1)(c:p2):q1∧q2∧B≤w1.heap.size∧∀b,w1.heap.size≤b→A1 b:=⟨c1.f t a,c2.f t c,Bx hB t,t.new⟩
theorem Cz3(t:Tr Dw B A w A1 w1)(hB:B≤w.heap.size)(a:p1)(c:p2)(d:p3):q1∧q2∧q3∧B≤w1.heap.size∧∀b,w1.heap.size≤b→A1 b:=⟨c1.f t a,c2.f t c,c3.f t d,Bx hB t,t.new⟩
theorem Cz4(t:Tr Dw B A w A1 w1)(hB:B≤w.heap.size)(a:p1)(c:p2)(d:p3)(e:p4):q1∧q2∧q3∧q4∧B≤w1.heap.size∧∀b,w1.heap.size≤b→A1 b:=⟨c1.f t a,c2.f t c,c3.f t d,c4.f t e,Bx hB t,t.new⟩
theorem Cz5(t:Tr Dw B A w A1 w1)(hB:B≤w.heap.size)(a:p1)(c:p2)(d:p3)(e:p4)(f:p5):q1∧q2∧q3∧q4∧q5∧B≤w1.heap.size∧∀b,w1.heap.size≤b→A1 b:=⟨c1.f t a,c2.f t c,c3.f t d,c4.f t e,c5.f t f,Bx hB t,t.new⟩
theorem Cz6(t:Tr Dw B A w A1 w1)(hB:B≤w.heap.size)(a:p1)(c:p2)(d:p3)(e:p4)(f:p5)(g:p6):q1∧q2∧q3∧q4∧q5∧q6∧B≤w1.heap.size∧∀b,w1.heap.size≤b→A1 b:=⟨c1.f t a,c2.f t c,c3.f t d,c4.f t e,c5.f t f,c6.f t g,Bx hB t,t.new⟩
theorem Cz7(t:Tr Dw B A w A1 w1)(hB:B≤w.heap.size)(a:p1)(c:p2)(d:p3)(e:p4)(f:p5)(g:p6)(h:p7):q1∧q2∧q3∧q4∧q5∧q6∧q7∧B≤w1.heap.size∧∀b,w1.heap.size≤b→A1 b:=⟨c1.f t a,c2.f t c,c3.f t d,c4.f t e,c5.f t f,c6.f t g,c7.f t h,Bx hB t,t.new⟩
theorem Cz9(t:Tr Dw B A w A1 w1)(hB:B≤w.heap.size)(a:p1)(c:p2)(d:p3)(e:p4)(f:p5)(g:p6)(h:p7)(i:p8)(j:p9):q1∧q2∧q3∧q4∧q5∧q6∧q7∧q8∧q9∧B≤w1.heap.size∧∀b,w1.heap.size≤b→A1 b:=⟨c1.f t a,c2.f t c,c3.f t d,c4.f t e,c5.f t f,c6.f t g,c7.f t h,c8.f t i,c9.f t j,Bx hB t,t.new⟩
end
section
variable{B:Nat}{A A1:Nat→Prop}{w w1:World}{L:List Ob}{p1 q1 p2 q2 p3 q3 p4 q4 p5 q5 p6 q6 p7 q7 p8 q8 p9 q9:Prop}
variable[c1:Cy_ Dw B A w A w1 p1 q1]
variable[c2:Cy_ Dw B A w A w1 p2 q2]
variable[c3:Cy_ Dw B A w A w1 p3 q3]
variable[c4:Cy_ Dw B A w A w1 p4 q4]
variable[c5:Cy_ Dw B A w A w1 p5 q5]
variable[c6:Cy_ Dw B A w A w1 p6 q6]
variable[c7:Cy_ Dw B A w A w1 p7 q7]
variable[c8:Cy_ Dw B A w A w1 p8 q8]
variable[c9:Cy_ Dw B A w A w1 p9 q9]
theorem Ch1(k:Kp Dw w w1)(a:∀b,w.heap.size≤b→A b)(hB:B≤w.heap.size)(c:Hp B A w L)(d:p1):q1∧Hp B A w1 L:=have t:=Kp.tr k a hB;⟨c1.f t d,c.kp k⟩
theorem Ch2(k:Kp Dw w w1)(a:∀b,w.heap.size≤b→A b)(hB:B≤w.heap.size)(c:Hp B A w L)(d:p1)(e:p2):q1∧q2∧Hp B A w1 L:=have t:=Kp.tr k a hB;⟨c1.f t d,c2.f t e,c.kp k⟩
theorem Ch3(k:Kp Dw w w1)(a:∀b,w.heap.size≤b→A b)(hB:B≤w.heap.size)(c:Hp B A w L)(d:p1)(e:p2)(f:p3):q1∧q2∧q3∧Hp B A w1 L:=have t:=Kp.tr k a hB;⟨c1.f t d,c2.f t e,c3.f t f,c.kp k⟩
theorem Ch4(k:Kp Dw w w1)(a:∀b,w.heap.size≤b→A b)(hB:B≤w.heap.size)(c:Hp B A w L)(d:p1)(e:p2)(f:p3)(g:p4):q1∧q2∧q3∧q4∧Hp B A w1 L:=have t:=Kp.tr k a hB;⟨c1.f t d,c2.f t e,c3.f t f,c4.f t g,c.kp k⟩
theorem Ck1(k:Kp Dw w w1)(a:∀b,w.heap.size≤b→A b)(hB:B≤w.heap.size)(c:Hp B A w L)(d:p1):q1∧Hp B A w1 L∧B≤w1.heap.size∧∀b,w1.heap.size≤b→A b:=have t:=Kp.tr k a hB;⟨c1.f t d,c.kp k,Bx hB t,t.new⟩
theorem Ck2(k:Kp Dw w w1)(a:∀b,w.heap.size≤b→A b)(hB:B≤w.heap.size)(c:Hp B A w L)(d:p1)(e:p2):q1∧q2∧Hp B A w1 L∧B≤w1.heap.size∧∀b,w1.heap.size≤b→A b:=have t:=Kp.tr k a hB;⟨c1.f t d,c2.f t e,c.kp k,Bx hB t,t.new⟩
theorem Ck3(k:Kp Dw w w1)(a:∀b,w.heap.size≤b→A b)(hB:B≤w.heap.size)(c:Hp B A w L)(d:p1)(e:p2)(f:p3):q1∧q2∧q3∧Hp B A w1 L∧B≤w1.heap.size∧∀b,w1.heap.size≤b→A b:=have t:=Kp.tr k a hB;⟨c1.f t d,c2.f t e,c3.f t f,c.kp k,Bx hB t,t.new⟩
theorem Ck4(k:Kp Dw w w1)(a:∀b,w.heap.size≤b→A b)(hB:B≤w.heap.size)(c:Hp B A w L)(d:p1)(e:p2)(f:p3)(g:p4):q1∧q2∧q3∧q4∧Hp B A w1 L∧B≤w1.heap.size∧∀b,w1.heap.size≤b→A b:=have t:=Kp.tr k a hB;⟨c1.f t d,c2.f t e,c3.f t f,c4.f t g,c.kp k,Bx hB t,t.new⟩
theorem Ck5(k:Kp Dw w w1)(a:∀b,w.heap.size≤b→A b)(hB:B≤w.heap.size)(c:Hp B A w L)(d:p1)(e:p2)(f:p3)(g:p4)(h:p5):q1∧q2∧q3∧q4∧q5∧Hp B A w1 L∧B≤w1.heap.size∧∀b,w1.heap.size≤b→A b:=have t:=Kp.tr k a hB;⟨c1.f t d,c2.f t e,c3.f t f,c4.f t g,c5.f t h,c.kp k,Bx hB t,t.new⟩
theorem Ck6(k:Kp Dw w w1)(a:∀b,w.heap.size≤b→A b)(hB:B≤w.heap.size)(c:Hp B A w L)(d:p1)(e:p2)(f:p3)(g:p4)(h:p5)(i:p6):q1∧q2∧q3∧q4∧q5∧q6∧Hp B A w1 L∧B≤w1.heap.size∧∀b,w1.heap.size≤b→A b:=have t:=Kp.tr k a hB;⟨c1.f t d,c2.f t e,c3.f t f,c4.f t g,c5.f t h,c6.f t i,c.kp k,Bx hB t,t.new⟩
theorem Ck8(k:Kp Dw w w1)(a:∀b,w.heap.size≤b→A b)(hB:B≤w.heap.size)(c:Hp B A w L)(d:p1)(e:p2)(f:p3)(g:p4)(h:p5)(i:p6)(j:p7)(l:p8):q1∧q2∧q3∧q4∧q5∧q6∧q7∧q8∧Hp B A w1 L∧B≤w1.heap.size∧∀b,w1.heap.size≤b→A b:=have t:=Kp.tr k a hB;⟨c1.f t d,c2.f t e,c3.f t f,c4.f t g,c5.f t h,c6.f t i,c7.f t j,c8.f t l,c.kp k,Bx hB t,t.new⟩
end
section
variable{P:Program}{n:Fr}{ops:Array Oper}{Q:Exit→Act→World→Prop}{rest:List Oper}{E:Env}{w:World}{v:Value}{fn:Func}{R:Value→World→Prop}{x y:Code}{Qx:Exit→Act→World→Prop}{a:Act}{f:FuncId}{c:Code}{args:Array Value}
theorem Ca_(d:C P n y Q E w)(b:Has n a E)(c:∀a w,Qx .normal a w=y.wpIn (FR n.ro) 0 P Q a w:=by exact fun _ _=>rfl):Qx .normal a w:=C_at c d b
theorem R1_{t:Tmp}(c:fn.results=#[.tmp t])(d:R v w)(e:E.get t=some v:=by exact rfl)(f:∀a,Q .ret a w=zeL P fn R .ret a w:=by intro _;(try simp only[↓ib, ↓th]);first | done | exact rfl)(b:n.ds=[]:=by exact rfl):C P n .ret Q E w:=Rt (Res.one c e) d f b
theorem En_{k:Nat}(b:P.funcs[f]?=some fn)(d:fn.ntmps=k)(g:C P ⟨k, [],none⟩ c (zeL P fn R) (zgj 0 args.toList) w)(e:fn.body=some c:=by exact rfl)(a:Nat.ble args.size k=true:=by exact rfl):Ret P f args w R:=enter b e d a g
theorem Cd_{α:Type}{o:Operand}{b:Bool}{i:Decidable (b=true)}{X Y r:α}(a:@ite α (b=true) i X Y=r)(c:b=true→X=r→C P n x Q E w)(d:b=false→Y=r→C P n y Q E w)(f:ev E o=some (.bool b):=by exact rfl):C P n (.cond o x y) Q E w :=
  zlp f (fun e=>c e (by rwa[if_pos e]at a)) (fun e=>d e (by rwa[if_neg (nt e)]at a))
end
section
variable{P:Program}{n:Fr}{ops:Array Oper}{Q:Exit→Act→World→Prop}{rest:List Oper}{E:Env}{w:World}{B:Nat}{A:Nat→Prop}{L:List Ob}{ty t e:TypeId}{x y:Operand}{pos:String}{af:Array Edge}{α:Type}[GoT α]{d:Nat}{zv v u:Value}
theorem Bl_(Dw:Prop){len:Nat}{a:Array (Nat×Operand)}{vs:List Value}(cells:Array Value)(l:List α)(g:P.underlying t=some (.slice e))(h:∀w,(Go.sizeOf e).run P w=.ok (GoT.cells α) w)(i:∀w,(zeroValue e).run P w=.ok zv w)(j:evs E (a.toList.map (·.2))=some vs)(m:Instr.fill (fun s=>some (s*GoT.cells α,GoT.cells α)) ((Array.range (len*GoT.cells α)).map (zv.cells[· % zv.cells.size]!)) ((a.toList.map (·.1)).zip vs)=some cells)(o:∀b,w.heap.size≤b→A b)(p:repL A w cells.toList l)(u:∀v w1,Kp Dw w w1→Sl A w1 v l→V P n ops Q rest ((d,v)::E) w1)(q:Nat.ble 1 (len*GoT.cells α)=true:=by exact rfl)(f:Nat.ble (len*GoT.cells α) (2^24)=true:=by exact rfl)(c:l.length=len:=by exact rfl)(r:Nat.blt d n.sz=true:=by exact rfl):
    V P n ops Q (⟨some d,.buildSlice t len a,ty,pos,af,none⟩::rest) E w:=jz g h i j m (Nat.ne_of_gt (Nat.le_of_ble_eq_true q)) (Nat.le_of_ble_eq_true f) o p c r u
theorem Ap_(Dw:Prop)(i:Nat){l m r:List α}{lim bytes:Nat}{ti:TypeInfo}(q:Hp B A w L)(s:Sl A w u m)(z:zE lim l m=some r)(D:P.underlying t=some (.slice e))(g:P.info? e=some ti)(hB:B≤w.heap.size)(F:∀b,w.heap.size≤b→A b)(K:∀a w1 A1,Hp B A1 w1 (L.set i (obS e a r))→Tr Dw B A w A1 w1→V P n ops Q rest ((d,a)::E) w1)(hi:L[i]?=some (obS e v l):=by exact rfl)(G:ti.zero=some zv:=by exact rfl)(c:ti.size=GoT.cells α:=by exact rfl)(h:ti.bytes=bytes:=by exact rfl)(j:zv.cells.size=GoT.cells α:=by exact rfl)(o:GoT.cells α≠0:=by decide)(f:lim*bytes≤140737488355328:=by decide)(p:lim≤maxLen:=by decide)(H:ev E x=some v:=by exact rfl)(I:ev E y=some u:=by exact rfl)(J:Nat.blt d n.sz=true:=by exact rfl):
    V P n ops Q (⟨some d,.call ⟨.builtin .append,#[x,y],#[t,t]⟩,ty,pos,af,none⟩::rest) E w:=zli q hi s z D g G c h j o f p hB F H I J K
theorem Sd_(Dw:Prop){b sz:Nat}{cs:List Value}{a:TypeId}{nv:Value}(off:Nat)(ds:List Value)(i:Nat)(g:Hp B A w L)(h:∀w,(Go.sizeOf t).run P w=.ok sz w)(hB:B≤w.heap.size)(j:∀b,w.heap.size≤b→A b)(o:∀w1,Hp B A w1 (L.set i (obC b ds a))→Tr Dw B A w A w1→V P n ops Q rest E w1)(hi:L[i]?=some (obC b cs a):=by exact rfl)(l:ev E y=some nv:=by exact rfl)(m:ev E x=some (.pointer (some ⟨b,off,none⟩)):=by exact rfl)(e:nv.cells.size=sz:=by exact rfl)(c:Nat.ble (off+sz) cs.length=true:=by exact rfl)(f:cs.take off++nv.cells.toList++cs.drop (off+sz)=ds:=by exact rfl)(d:∀u∈nv.cells.toList,u.oneCell'=true:=by repeat (first | exact List.forall_mem_nil _ | refine List.forall_mem_cons.2 ⟨(by first | exact rfl | assumption),?_⟩)):
    V P n ops Q (⟨none,.store t x y,ty,pos,af,none⟩::rest) E w:=zjF g hi h e (Nat.le_of_ble_eq_true c) d f hB j m l o
end
theorem Rf_{B:Nat}{A:Nat→Prop}{w:World}(Dw:Prop)(hB:B≤w.heap.size)(a:∀b,w.heap.size≤b→A b):Tr Dw B A w A w:=Tr.refl a
end Go.Gw
