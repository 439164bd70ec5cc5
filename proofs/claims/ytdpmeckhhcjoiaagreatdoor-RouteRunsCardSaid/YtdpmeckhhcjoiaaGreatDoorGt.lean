import Derived.Test.YtdpmeckhhcjoiaaGreatDoorGk
import Derived.Test.YtdpmeckhhcjoiaaGreatDoorGq
namespace Go.Gw
open Go Go.RowKit Go.Pu
variable{Dw:Prop}
set_option linter.unusedSimpArgs false
set_option linter.unusedVariables false
structure Ptr where
 b:Nat
instance:GoT Ptr where
 cells:=1
 wf _:=True
 rep _ _ cs x:=cs=[.pointer (some ⟨x.b,0,none⟩)]
 len h:=by subst h;rfl
 one h u hu:=by subst h;simp at hu;subst hu;rfl
 keep h _:=h
abbrev obQ(p:Prop):Ob:=obF (fun _ _=>p) (fun h _=>h)
section
variable{γ:Type}(f:Nat→γ→Ob)
def psZ(ps:List Ptr)(cs:List γ):List Ob:=List.zipWith (fun p c=>f p.b c) ps cs
def psL(e:TypeId)(v:Value)(cs:List γ)(ps:List Ptr):List Ob:=obQ (ps.length=cs.length)::obS e v ps::psZ f ps cs
def obPS(e:TypeId)(v:Value)(cs:List γ):Ob:=obE (psL f e v cs)
def obPX(e:TypeId)(v:Value)(cs:List γ)(k b:Nat):Ob:=obE (fun ps=>obQ (ps.length=cs.length∧ps[k]?=some (⟨b⟩:Ptr))::obS e v ps::(psZ f ps cs).eraseIdx k)
end
theorem zjV{α:Type}{x:α}:∀{l:List α} {i:Nat},l[i]?=some x→l.Perm (x::l.eraseIdx i)
 | [],_,h=>by simp at h
 | y::l,0,h=>by simp at h;subst h;exact .refl _
 | y::l,i+1,h=>by
  simp at h
  exact ((zjV h).cons y).trans (.swap _ _ _)
theorem zix{α:Type}{x y:α}:∀{l:List α} {i:Nat},l[i]?=some x→(y::l.eraseIdx i).Perm (l.set i y)
 | [],_,h=>by simp at h
 | z::l,0,h=>by simp
 | z::l,i+1,h=>by
  simp at h
  exact (List.Perm.swap _ _ _).trans ((zix h).cons z)
section
variable{B:Nat}{A A1:Nat→Prop}{w w1:World}{L M:List Ob}{O:Ob}{i k:Nat}{γ:Type}{f:Nat→γ→Ob}{e:TypeId}{v:Value}{cs:List γ}{c:γ}
theorem zsB{a:List Ptr}{cs:List γ}(h:a.length=cs.length){k:Nat}{c:γ}(b:cs[k]?=some c):∃e,a[k]?=some (⟨e⟩:Ptr)∧(psZ f a cs)[k]?=some (f e c):=by{have g:=(List.getElem?_eq_some_iff.1 b).1;have d:a[k]?=some a[k]:=List.getElem?_eq_getElem (by omega);refine⟨a[k].b,d,?_⟩;unfold psZ;rw[List.getElem?_zipWith,d,b]}
theorem Hp.psOpen(u:Hp B A w L)(hi:L[i]?=some (obPS f e v cs))(j:cs[k]?=some c):∃b a,a[k]?=some (⟨b⟩:Ptr)∧a.length=cs.length∧Sl (fun _=>True) w v a∧Hp B A w (f b c::L.set i (obPX f e v cs k b)):=by{
 have l:=u.front hi;obtain⟨a,d⟩:=Hp.open l
 have g:a.length=cs.length:=by
  obtain⟨_,⟨_,m⟩,_⟩:=d.at (i:=0) rfl
  exact m
 obtain⟨b,h,n⟩:=zsB (f:=f) g j;have o:=d.any (α:=Ptr) (i:=1) rfl;refine⟨b,a,h,g,o,?_⟩
 have p:Hp B A w (f b c::(obS e v a::(psZ f a cs).eraseIdx k++L.eraseIdx i)):=by
  have q:=d.drop (i:=0) rfl
  refine q.perm ?_
  show (obS e v a::psZ f a cs++L.eraseIdx i).Perm _
  refine List.Perm.trans (List.Perm.append_right _ ((zjV n).cons _)) ?_
  exact .swap _ _ _
 have r:Hp B A w ((obQ (a.length=cs.length∧a[k]?=some (⟨b⟩:Ptr))::obS e v a::(psZ f a cs).eraseIdx k)++f b c::L.eraseIdx i):=by
  have s:=p.free (O':=obQ (a.length=cs.length∧a[k]?=some (⟨b⟩:Ptr))) ⟨rfl,g,h⟩
  refine s.perm ?_
  simp only[List.cons_append]
  refine List.Perm.cons _ ?_
  show (f b c::(obS e v a::(psZ f a cs).eraseIdx k++L.eraseIdx i)).Perm ((obS e v a::(psZ f a cs).eraseIdx k)++f b c::L.eraseIdx i)
  exact List.perm_middle.symm
 have t:=Hp.pack (F:=fun a=>obQ (a.length=cs.length∧a[k]?=some (⟨b⟩:Ptr))::obS e v a::(psZ f a cs).eraseIdx k) a r;refine t.perm ?_;exact (List.Perm.swap _ _ _).trans ((zix hi).cons _)}
theorem Hp.psClose{b:Nat}{c a:γ}(t:Hp B A w (f b a::L))(hi:L[i]?=some (obPX f e v cs k b))(l:cs[k]?=some c):Hp B A w (L.set i (obPS f e v (cs.set k a))):=by{
 have m:=t.front (i:=i+1) (by simpa using hi);obtain⟨d,g⟩:=Hp.open m
 have h:d.length=cs.length∧d[k]?=some (⟨b⟩:Ptr):=by
  obtain⟨_,⟨_,n⟩,_⟩:=g.at (i:=0) rfl
  exact n
 have j:=(List.getElem?_eq_some_iff.1 l).1
 have o:(psZ f d (cs.set k a))[k]?=some (f b a):=by
  unfold psZ
  rw[List.getElem?_zipWith,h.2,List.getElem?_set_self j]
 have p:(psZ f d (cs.set k a)).eraseIdx k=(psZ f d cs).eraseIdx k:=by
  unfold psZ
  apply List.ext_getElem?
  intro u
  simp only[List.getElem?_eraseIdx,List.getElem?_zipWith]
  split
  rw[List.getElem?_set_ne (by omega)]
  rw[List.getElem?_set_ne (by omega)]
 have q:=g.drop (i:=0) rfl
 have r:Hp B A w (psL f e v (cs.set k a) d++L.eraseIdx i):=by
  have s:=q.free (O':=obQ (d.length=(cs.set k a).length)) ⟨rfl,by rw[List.length_set];exact h.1⟩
  refine s.perm ?_
  unfold psL
  simp only[List.cons_append]
  refine List.Perm.cons _ (List.Perm.cons _ ?_)
  show ((psZ f d cs).eraseIdx k++f b a::L.eraseIdx i).Perm (psZ f d (cs.set k a)++L.eraseIdx i)
  rw[← p]
  refine List.perm_middle.trans ?_
  exact List.Perm.append_right _ (zjV o).symm
 exact (Hp.pack (F:=psL f e v (cs.set k a)) d r).perm (zix hi)}
theorem Hp.psBack{b:Nat}{c:γ}(g:Hp B A w (f b c::L))(hi:L[i]?=some (obPX f e v cs k b))(a:cs[k]?=some c):Hp B A w (L.set i (obPS f e v cs)):=by{
 have:=g.psClose hi a
 have e:cs.set k c=cs:=by
  apply List.ext_getElem?
  intro h
  by_cases d:k=h
  subst d;rw[List.getElem?_set_self (List.getElem?_eq_some_iff.1 a).1,a]
  rw[List.getElem?_set_ne d]
 rwa[e]at this}
theorem Hp.psNil(a:Hp B A w L):Hp B A w (obPS f e (.slice none 0 0) []::L):=by{refine Hp.pack (F:=psL f e (.slice none 0 0) []) [] ?_;exact (a.addNil (α:=Ptr) (e:=e)).free (O':=obQ (([]:List Ptr).length=([]:List γ).length)) ⟨rfl,rfl⟩}
theorem Hp.psForm(h:Hp B A w L)(hi:L[i]?=some (obPS f e v cs)):∃j b,v=.slice j cs.length b∧cs.length≤maxLen:=by{
 obtain⟨c,a⟩:=Hp.open (h.front hi)
 have d:c.length=cs.length:=by
  obtain⟨_,⟨_,g⟩,_⟩:=a.at (i:=0) rfl
  exact g
 have:=(a.any (α:=Ptr) (i:=1) rfl).form;rwa[d]at this}
theorem Hp.psOne(a:Hp B A w L)(hi:L[i]?=some (obPS f e v cs)):v.oneCell'=true:=by{obtain⟨_,_,rfl,_⟩:=a.psForm hi;rfl}
end
section steps
variable{P:Program}{n:Fr}{ops:Array Oper}{Q:Exit→Act→World→Prop}{E:Env}{w:World}{rest:List Oper}{v u:Value}{d:Nat}{W:World→Prop}{QA:Act→Prop}
variable{ty t e:TypeId}{pos:String}{af:Array Edge}{x y z:Operand}{A:Nat→Prop}{B:Nat}{L:List Ob}{i:Nat}{γ:Type}{f:Nat→γ→Ob}{cs:List γ}{c:γ}
theorem El.ptr{b off:Nat}{a:Ptr}(e:El A w b off a):w.cell? ⟨b,off,none⟩=some (.pointer (some ⟨a.b,0,none⟩)):=by{obtain⟨_,_,cs,c,d⟩:=e;have:cs=[.pointer (some ⟨a.b,0,none⟩)]:=c;subst this;simpa using d 0 _ rfl}
theorem zlA{k:IntKind}{b:Int}(o:Hp B A w L)(hi:L[i]?=some (obPS f e v cs))(j:idx cs b=some c)(p:P.underlying t=some (.slice e))(l:∀w,(Go.sizeOf e).run P w=.ok 1 w)(q:ev E x=some v)(r:ev E y=some (.int k b))(s:Nat.blt d n.sz=true)(H:∀g off a,cs[b.toNat]?=some c→w.cell? ⟨g,off,none⟩=some (.pointer (some ⟨a,0,none⟩))→Hp B A w (f a c::L.set i (obPX f e v cs b.toNat a))→VQ P n ops W QA rest ((d,.pointer (some ⟨g,off,none⟩))::E)):
  VQ P n ops W QA (⟨some d,.indexAddr t x y,ty,pos,af,none⟩::rest) E:=by{obtain⟨u,I,h⟩:=zed j;obtain⟨a,z,D,J,F,m⟩:=o.psOpen hi h;refine Zw (α:=Ptr) (x:=x) (y:=y) F (show idx z b=some ⟨a⟩ by unfold idx;rw[if_pos u];exact D) p l q r s ?_;intro g off G;exact H g off a h G.ptr m}
theorem zpm{a:Nat}{r:List γ}{lim bytes:Nat}{ti:TypeInfo}{k:Value}(H:Hp B A w (f a c::L))(hi:L[i]?=some (obPS f e v cs))(I:Sl A w u [(⟨a⟩:Ptr)])(h:zC lim cs [c]=some r)(J:P.underlying t=some (.slice e))(q:P.info? e=some ti)(K:ti.zero=some k)(o:ti.size=1)(s:ti.bytes=bytes)(z:k.cells.size=1)(p:lim*bytes≤140737488355328)(D:lim≤maxLen)(hB:B≤w.heap.size)(M:∀m,w.heap.size≤m→A m)(N:ev E x=some v)(O:ev E y=some u)(R:Nat.blt d n.sz=true)(X:∀g w1 A1,Hp B A1 w1 (L.set i (obPS f e g r))→Tr Dw B A w A1 w1→V P n ops Q rest ((d,g)::E) w1):
  V P n ops Q (⟨some d,.call ⟨.builtin .append,#[x,y],#[t,t]⟩,ty,pos,af,none⟩::rest) E w:=by{
 obtain⟨F,rfl⟩:=zjA h;obtain⟨b,l⟩:=Hp.open (H.front (i:=i+1) (show (f a c::L)[i+1]?=some (obPS f e v cs) by simpa using hi))
 have j:b.length=cs.length:=by
  obtain⟨_,⟨_,h⟩,_⟩:=l.at (i:=0) rfl
  exact h
 refine zms (Dw:=Dw) (α:=Ptr) (l:=b) (m := [⟨a⟩]) (r:=b++[⟨a⟩]) (lim:=lim) l (i:=1) rfl I (by unfold zC;rw[if_pos (by rw[j];simpa using F)]) J q K o s z (by decide) p D hB M N O R ?_;intro g w1 A1 S T;refine X g w1 A1 ?_ T
 have U:Hp B A1 w1 (psL f e g (cs++[c]) (b++[⟨a⟩])++L.eraseIdx i):=by
  have W:=(S.drop (i:=0) rfl).free (O':=obQ ((b++[(⟨a⟩:Ptr)]).length=(cs++[c]).length)) ⟨rfl,by simp[j]⟩
  refine W.perm ?_
  unfold psL
  have G:psZ f (b++[⟨a⟩]) (cs++[c])=psZ f b cs++[f a c]:=by
   unfold psZ
   rw[List.zipWith_append j]
   rfl
  rw[G]
  refine List.Perm.cons _ (List.Perm.cons _ ?_)
  show (psZ f b cs++f a c::L.eraseIdx i).Perm (psZ f b cs++[f a c]++L.eraseIdx i)
  rw[List.append_assoc]
  exact .refl _
 exact (Hp.pack (F:=psL f e g (cs++[c])) (b++[⟨a⟩]) U).perm (zix hi)}
end steps
end Go.Gw
