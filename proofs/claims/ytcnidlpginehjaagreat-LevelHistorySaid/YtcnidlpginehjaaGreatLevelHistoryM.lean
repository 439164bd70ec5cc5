import Derived.Test.YtcnidlpginehjaaGreatPu
namespace Go.Proofs.YtcnidlpginehjaaGreat.M
open Go Go.Pu
set_option linter.unusedVariables false
set_option linter.unusedSimpArgs false
structure zS where
 name:ByteArray
 kind:Int
 options:(List ByteArray)
 needs:Int
structure zK where
 fields:(List zS)
structure zu where
 kind:Int
 int:Int
 text:ByteArray
structure zk where
 at_:Int
 ticket:Int
 who:Int
 kind:Int
 field:Int
 to_:Int
 message:Int
 value:zu
structure zd where
 no:Int
 opened:Int
 changed:Int
 status:Int
 priority:Int
 person:Int
 into:Int
 from_:Int
 values:(List zu)
 messages:(List Int)
 notes:(List Int)
 events:Int
structure zo where
 kind:Int
 other:Int
 event:Int
 before:zd
 to_:zd
structure zp where
 form:zK
 log:(List zk)
 tickets:(List zd)
 owners:(Fmap Int Int)
 last:(List Int)
 undo:(Rmap Int zo)
 other:Int
structure zE where
 event:Int
 one:zd
 other:zd
structure zB where
 form:zK
 states:(List zd)
 log:(List zk)
 last:(List Int)
 before:(List zE)
structure zw where
 at_:Int
 kind:Int
 who:Int
 status:Int
 priority:Int
 values:(List zu)
def zez(l:List Int):Option (List Int):=if l.length<4611686018427387904 then some (l.mergeSort fun a b=>decide (a≤b)) else none
noncomputable def Jf(s:ByteArray):Option Bool :=
 Option.bind (zbK (fun b=>if (decide (b<(s.size:Int)))=true then Option.bind (idxS s b) fun a=>if ((!((decide ((97:Int)≤(a.toNat:Int)))&&(decide ((a.toNat:Int)≤122))))&&((b==0)||((!((decide ((48:Int)≤(a.toNat:Int)))&&(decide ((a.toNat:Int)≤57))))&&((a.toNat:Int) != 95))))=true then some (.rt false) else some (.nx (w64 (b+1))) else some (.bk b)) 0) fun c=>c.andThen (fun d=>some d) fun e =>
 some ((!(ZU s (⟨#[]⟩:ByteArray)))&&(decide ((s.size:Int)≤20)))
def Qb(s:(List zS))(f:zS→Option Bool):Option Int :=
 Option.bind (Zx (fun a _=>Option.bind (idx s (a:Int)) fun b=>Option.bind (f b) fun c=>if c=true then some (.rt (a:Int)) else some (.nx ())) s.length 0 ()) fun o3=>o3.andThen (fun d=>some d) fun e =>
 some (-1)
def qc(s:(List zS))(f:zS→Option Bool):Option Bool :=
 Option.bind (Qb s f) fun a =>
 some (decide ((0:Int)≤a))
def QU(y:zS)(a:zS):Option Bool :=
 some (ZU a.name y.name)
def zF(n:Int)(b:Int)(a:Int):Bool :=
 ((decide (b≤n))&&(decide (n≤a)))
def jk(s:(List ByteArray))(v:ByteArray):Option Int :=
 Option.bind (Zx (fun a _=>Option.bind (idx s (a:Int)) fun b=>if (ZU v b)=true then some (.rt (a:Int)) else some (.nx ())) s.length 0 ()) fun o3=>o3.andThen (fun c=>some c) fun d =>
 some (-1)
def qs(s:(List ByteArray))(v:ByteArray):Option Bool :=
 Option.bind (jk s v) fun a =>
 some (decide ((0:Int)≤a))
noncomputable def jV(x:zS):Option Int :=
 if (!((x.kind==4)==(decide ((0:Int)<(x.options.length:Int)))))=true then
  some 1
 else
  if (decide ((20:Int)<(x.options.length:Int)))=true then
   some 4
  else
   Option.bind (Zx (fun a _=>Option.bind (idx x.options (a:Int)) fun b=>Option.bind (Jf b) fun c=>if (!c)=true then some (.rt 3) else Option.bind (jH x.options none (some (a:Int))) fun d=>Option.bind (qs d b) fun e=>if e=true then some (.rt 6) else some (.nx ())) x.options.length 0 ()) fun o24=>o24.andThen (fun f=>some f) fun g =>
   some 0
noncomputable def JS(f:zK):Option Int :=
 if (decide ((20:Int)<(f.fields.length:Int)))=true then
  some 4
 else
  Option.bind (Zx (fun b _=>Option.bind (idx f.fields (b:Int)) fun a=>Option.bind (Jf a.name) fun d=>if (!d)=true then some (.rt 3) else Option.bind (jH f.fields none (some (b:Int))) fun e=>Option.bind (qc e (fun g=>QU g a)) fun h=>if h=true then some (.rt 6) else if (!(zF a.kind 1 6))=true then some (.rt 10) else Option.bind (jV a) fun c=>if (c != 0)=true then some (.rt c) else if (!(zF a.needs 0 6))=true then some (.rt 2) else some (.nx ())) f.fields.length 0 ()) fun i=>i.andThen (fun j=>some j) fun k =>
  some 0
def jb(l:(List zS)):Option (List zS) :=
 if ((l.length:Int)==0)=true then
  some ([]:(List zS))
 else
  Option.bind (JC 5026338869833 (l.length:Int) (⟨ByteArray.empty,0, [],0⟩:zS)) fun a =>
  some (jR a l)
def QZ(l:(List ByteArray)):Option (List ByteArray) :=
 if ((l.length:Int)==0)=true then
  some ([]:(List ByteArray))
 else
  Option.bind (JC 17592186044416 (l.length:Int) (ByteArray.empty:ByteArray)) fun a =>
  some (jR a l)
def Jx(f:zK):Option zK :=
 Option.bind (jb f.fields) fun a =>
 Option.bind (Zx (fun b c=>Option.bind (idx c.fields (b:Int)) fun d=>Option.bind (QZ d.options) fun e=>Option.bind (setI c.fields (b:Int) ({ (d:zS)with options:=e })) fun g=>some (.nx (⟨g⟩:zK))) a.length 0 (⟨a⟩:zK)) fun h=>h.andThen (fun j=>some j) fun i =>
 some i
noncomputable def zcN(f:zK):Option ((Option zp)×Int) :=
 Option.bind (JS f) fun a =>
 if (a != 0)=true then
  some (none,a)
 else
  Option.bind (Jx f) fun b =>
  some (some (⟨b,([]:(List zk)),([]:(List zd)),⟨([]:List (Int×Int))⟩,([]:(List Int)),⟨([]:List (Int×zo))⟩,0⟩:zp),0)
def zcp(x:zk):Option (Bool×Bool×Bool×Bool) :=
 Option.bind (Option.bind (if (x.kind==1)=true then some (x.kind==1) else Option.bind (if (x.kind==5)=true then some (x.kind==5) else Option.bind (if (x.kind==6)=true then some (x.kind==6) else some (x.kind==7)) fun g=>some g) fun h=>some h) fun i=>Option.bind (if i=true then some (false,true,false,false) else Option.bind (if (x.kind==2)=true then some (x.kind==2) else some (x.kind==3)) fun j=>Option.bind (if j=true then some (false,false,true,false) else Option.bind (if (x.kind==4)=true then some (true,false,false,true) else Option.bind (if (x.kind==8)=true then some (false,true,true) else Option.bind (if (x.kind==10)=true then some (x.message==0,true) else some (false,false)) fun f=>some (f.1,false,f.2)) fun e=>some (e.1,e.2.1,e.2.2,false)) fun a=>some (a.1,a.2.1,a.2.2.1,a.2.2.2)) fun b=>some (b.1,b.2.1,b.2.2.1,b.2.2.2)) fun c=>some (c.1,c.2.1,c.2.2.1,c.2.2.2)) fun d =>
 some (d.1,d.2.1,d.2.2.1,d.2.2.2)
def Ju(x:zk):Option Int :=
 if (!(zF x.kind 1 10))=true then
  some 10
 else
  Option.bind (zcp x) fun a =>
  if (((((!a.1)&&(x.field != 0))||((!a.2.1)&&(x.to_ != 0)))||((!a.2.2.1)&&(x.message != 0)))||((!a.2.2.2)&&(!(x.value.kind==0&&(x.value.int==0&&(ZU x.value.text ByteArray.empty))))))=true then
   some 1
  else
   some 0
def jl(b:zp)(a:Int):Option Bool :=
 some (zF a 1 (b.tickets.length:Int))
def jM(a:zp)(x:zk):Option Int :=
 if (!(zF x.message 1 1000))=true then
  some 2
 else
  if ((zy a.owners.l x.message).isSome)=true then
   some 6
  else
   if ((x.kind==3)&&(x.who==0))=true then
    some 12
   else
    some 0
def zaQ(v:zu):Option Bool :=
 some (((v.int != 0)&&((v.kind==0)||(v.kind==3)))||((!(ZU v.text (⟨#[]⟩:ByteArray)))&&(v.kind != 3)))
noncomputable def JL(s:ByteArray):Option Int :=
 if (decide ((200:Int)<(s.size:Int)))=true then
  some 4
 else
  Option.bind (zbK (fun a=>if (decide (a<(s.size:Int)))=true then Option.bind (idxS s a) fun b=>if (decide ((b.toNat:Int)<32))=true then some (.rt 9) else some (.nx (w64 (a+1))) else some (.bk a)) 0) fun c=>c.andThen (fun d=>some d) fun e =>
  some 0
noncomputable def Jz(x:zS)(v:zu):Option Int :=
 Option.bind (zaQ v) fun a =>
 if a=true then
  some 1
 else
  if ((v.kind != 0)&&(v.kind != x.kind))=true then
   some 10
  else
   Option.bind (Option.bind (if (v.kind==1)=true then some (zF v.int 0 1) else Option.bind (if (v.kind==4)=true then some (zF v.int 0 (w64 ((x.options.length:Int)-1))) else Option.bind (if (v.kind==5)=true then some (zF v.int 0 3000000) else Option.bind (if (v.kind==6)=true then some (zF v.int 1 40) else Option.bind (if (v.kind==2)=true then some (zF v.int (-1000000000) 1000000000) else some true) fun b=>some b) fun c=>some c) fun d=>some d) fun e=>some e) fun f=>some f) fun g =>
   if (!g)=true then
    some 2
   else
    Option.bind (JL v.text) fun h =>
    some h
noncomputable def jI(c:zp)(s:zd)(x:zk):Option Int :=
 if (!(zF x.field 0 (w64 ((c.form.fields.length:Int)-1))))=true then
  some 7
 else
  Option.bind (idx c.form.fields x.field) fun a =>
  Option.bind (Jz a x.value) fun b =>
  if (b != 0)=true then
   some b
  else
   if (x.who==0)=true then
    some 12
   else
    if (s.status==6)=true then
     some 11
    else
     if (((x.value.kind==0)&&(a.needs != 0))&&(decide (a.needs≤s.status)))=true then
      some 1
     else
      some 0
def JT(a:Int)(b:Int):Option Bool :=
 if (a==1)=true then
  some (zF b 2 5)
 else
  Option.bind (if (a==2)=true then some (a==2) else Option.bind (if (a==3)=true then some (a==3) else some (a==4)) fun c=>some c) fun d =>
  if d=true then
   some ((zF b 2 5)&&(b != a))
  else
   if (a==5)=true then
    some ((b==2)||(b==6))
   else
    some false
def jt(c:zp)(s:zd)(x:zk):Option Int :=
 if (!(zF x.to_ 1 6))=true then
  some 2
 else
  Option.bind (JT s.status x.to_) fun d =>
  if (!d)=true then
   some 11
  else
   if ((x.who==0)&&((s.status != 5)||(x.to_ != 2)))=true then
    some 12
   else
    Option.bind (Zx (fun a _=>Option.bind (idx c.form.fields (a:Int)) fun b=>Option.bind (if ((b.needs != 0)&&(decide (b.needs≤x.to_)))=true then (Option.bind (idx s.values (a:Int)) fun e=>some (e.kind==0)) else (some false)) fun f=>if f=true then some (.rt 1) else some (.nx ())) c.form.fields.length 0 ()) fun g=>g.andThen (fun h=>some h) fun i =>
    some 0
def JB(s:zd)(x:zk):Option Int :=
 if (!(zF x.to_ 0 40))=true then
  some 2
 else
  if (x.who==0)=true then
   some 12
  else
   if (s.person==x.to_)=true then
    some 6
   else
    some 0
def jd(b:zp)(s:zd)(x:zk):Option Int :=
 Option.bind (jl b x.to_) fun d =>
 if (!d)=true then
  some 7
 else
  if (x.to_==x.ticket)=true then
   some 13
  else
   Option.bind (idx b.tickets (w64 (x.to_-1))) fun a =>
   if (a.into != 0)=true then
    some 11
   else
    if (x.who==0)=true then
     some 12
    else
     Option.bind (if (s.status==6)=true then (some true) else (some (a.status==6))) fun c =>
     if c=true then
      some 11
     else
      some 0
def QN(s:(List Int))(v:Int):Option Int :=
 Option.bind (Zx (fun a _=>Option.bind (idx s (a:Int)) fun b=>if (v==b)=true then some (.rt (a:Int)) else some (.nx ())) s.length 0 ()) fun o3=>o3.andThen (fun c=>some c) fun d =>
 some (-1)
def qP(s:(List Int))(v:Int):Option Bool :=
 Option.bind (QN s v) fun a =>
 some (decide ((0:Int)≤a))
def js(a:zp)(s:zd)(x:zk):Option Int :=
 if (decide ((400:Int)≤(a.tickets.length:Int)))=true then
  some 16
 else
  if (x.to_ != (w64 ((a.tickets.length:Int)+1)))=true then
   some 5
  else
   Option.bind (qP s.messages x.message) fun b =>
   if (!b)=true then
    some 7
   else
    Option.bind (idx s.messages 0) fun c =>
    if (c==x.message)=true then
     some 1
    else
     if (x.who==0)=true then
      some 12
     else
      if (s.status==6)=true then
       some 11
      else
       some 0
def ja(a:zp)(x:zk):Option Int :=
 if (x.who==0)=true then
  some 12
 else
  if (!((zy a.undo.l x.ticket).isSome))=true then
   some 7
  else
   Option.bind (idx a.last (w64 ((((zy a.undo.l x.ticket).getD (⟨0,0,0,⟨0,0,0,0,0,0,0,0, [], [], [],0⟩,⟨0,0,0,0,0,0,0,0, [], [], [],0⟩⟩)).other)-1))) fun b =>
   if (b != (((zy a.undo.l x.ticket).getD (⟨0,0,0,⟨0,0,0,0,0,0,0,0, [], [], [],0⟩,⟨0,0,0,0,0,0,0,0, [], [], [],0⟩⟩)).event))=true then
    some 11
   else
    some 0
def jS(e:zp)(s:zd)(x:zk):Option Int :=
 if (x.who==0)=true then
  some 12
 else
  if ((x.message==0)&&(!(zF x.field 0 (w64 ((e.form.fields.length:Int)-1)))))=true then
   some 7
  else
   Option.bind (if (x.message != 0)=true then (Option.bind (qP s.messages x.message) fun a=>some (!a)) else (some false)) fun b =>
   Option.bind (if b=true then (Option.bind (qP s.notes x.message) fun c=>some (!c)) else (some false)) fun d =>
   if d=true then
    some 7
   else
    some 0
noncomputable def qX(a:zp)(x:zk):Option Int :=
 if (decide ((6000:Int)≤(a.log.length:Int)))=true then
  some 16
 else
  Option.bind (Ju x) fun c =>
  if (c != 0)=true then
   some c
  else
   if ((!(zF x.at_ 0 3000000))||(!(zF x.who (-1) 40)))=true then
    some 2
   else
    Option.bind (if (decide ((0:Int)<(a.log.length:Int)))=true then (Option.bind (idx a.log (w64 ((a.log.length:Int)-1))) fun k=>some (decide (x.at_<k.at_))) else (some false)) fun l =>
    if l=true then
     some 5
    else
     if (x.kind==1)=true then
      if (decide ((400:Int)≤(a.tickets.length:Int)))=true then
       some 16
      else
       if (x.ticket != (w64 ((a.tickets.length:Int)+1)))=true then
        some 5
       else
        if (!(zF x.to_ 1 4))=true then
         some 2
        else
         some 0
     else
      Option.bind (jl a x.ticket) fun m =>
      if (!m)=true then
       some 7
      else
       Option.bind (idx a.tickets (w64 (x.ticket-1))) fun b =>
       if (((b.into != 0)&&(x.kind != 10))&&(x.kind != 9))=true then
        some 11
       else
        Option.bind (if (x.kind==2)=true then some (x.kind==2) else some (x.kind==3)) fun n =>
        if n=true then
         Option.bind (jM a x) fun o =>
         some o
        else
         if (x.kind==4)=true then
          Option.bind (jI a b x) fun d =>
          some d
         else
          if (x.kind==5)=true then
           Option.bind (jt a b x) fun e =>
           some e
          else
           if (x.kind==6)=true then
            Option.bind (JB b x) fun f =>
            some f
           else
            if (x.kind==7)=true then
             Option.bind (jd a b x) fun g =>
             some g
            else
             if (x.kind==8)=true then
              Option.bind (js a b x) fun h =>
              some h
             else
              if (x.kind==9)=true then
               Option.bind (ja a x) fun i =>
               some i
              else
               Option.bind (jS a b x) fun j =>
               some j
def Qu(a:zp)(b:Int)(i:Int)(e:Int):Option zp :=
 Option.bind (idx a.tickets (w64 (b-1))) fun c =>
 Option.bind (setI a.tickets (w64 (b-1)) ({ (c:zd)with events:=w64 (c.events+1) })) fun d =>
 Option.bind (idx d (w64 (b-1))) fun f =>
 Option.bind (setI d (w64 (b-1)) ({ (f:zd)with changed:=e })) fun g =>
 Option.bind (idx a.last (w64 (b-1))) fun j =>
 Option.bind (setI a.last (w64 (b-1)) i) fun h =>
 some (⟨a.form,a.log,g,⟨a.owners.l⟩,h,⟨(qh a.undo.l b)⟩,a.other⟩:zp)
def jh(l:(List Int)):Option (List Int) :=
 if ((l.length:Int)==0)=true then
  some ([]:(List Int))
 else
  Option.bind (JC 35184372088832 (l.length:Int) (0:Int)) fun a =>
  some (jR a l)
noncomputable def qf(k:zp)(c:Int)(l:(List Int))(b:(List Int)):Option ((List Int)×zp) :=
 Option.bind (jh l) fun d =>
 Option.bind (Zc 17592186044416 d b) fun e =>
 Option.bind (Zx (fun f a=>Option.bind (idx b (f:Int)) fun g=>some (.nx (⟨a.form,a.log,a.tickets,⟨(qR a.owners.l g c)⟩,a.last,⟨a.undo.l⟩,a.other⟩:zp))) b.length 0 k) fun h=>h.andThen (fun m=>some m) fun i =>
 Option.bind (zez e) fun j =>
 some (j,i)
noncomputable def zaj(e:zp)(s:Int)(x:zk):Option zp :=
 Option.bind (idx e.tickets s) fun d =>
 Option.bind (qf e d.no d.messages ([x.message]:List Int)) fun a =>
 Option.bind (idx a.2.tickets s) fun f =>
 Option.bind (setI a.2.tickets s ({ (f:zd)with messages:=a.1 })) fun c =>
 Option.bind (idx c s) fun b =>
 Option.bind (if (((x.who==0)&&((b.status==3)||(b.status==5)))||((decide ((0:Int)<x.who))&&(b.status==1)))=true then Option.bind (setI c s ({ (b:zd)with status:=2 })) fun g=>some (⟨a.2.form,a.2.log,g,⟨a.2.owners.l⟩,a.2.last,⟨a.2.undo.l⟩,a.2.other⟩:zp) else some (⟨a.2.form,a.2.log,c,⟨a.2.owners.l⟩,a.2.last,⟨a.2.undo.l⟩,a.2.other⟩:zp)) fun h =>
 some h
def jc(l:(List zu)):Option (List zu) :=
 if ((l.length:Int)==0)=true then
  some ([]:(List zu))
 else
  Option.bind (JC 8796093022208 (l.length:Int) (⟨0,0,ByteArray.empty⟩:zu)) fun a =>
  some (jR a l)
def QS(s:zd):Option zd :=
 Option.bind (jc s.values) fun a =>
 Option.bind (jh s.messages) fun b =>
 Option.bind (jh s.notes) fun c =>
 some (⟨s.no,s.opened,s.changed,s.status,s.priority,s.person,s.into,s.from_,a,b,c,s.events⟩:zd)
def jG{α:Type}(n:Int):Option (List α):=if 0≤n∧n≤17592186044416 then some [] else none
def jq(a:(List (List Int))):Option (List Int) :=
 Option.bind (Zx (fun l c=>Option.bind (idx a (l:Int)) fun d=>if (decide ((w64 (c+(d.length:Int)))<0))=true then none else some (.nx (w64 (c+(d.length:Int))))) a.length 0 0) fun o3=>o3.andThen (fun b=>some b) fun m =>
 Option.bind (jG  m) fun e =>
 Option.bind (Zx (fun f g=>Option.bind (idx a (f:Int)) fun h=>Option.bind (Zc 17592186044416 g h) fun i=>some (.nx i)) a.length 0 e) fun j=>j.andThen (fun b=>some b) fun k =>
 some k
def qT(f:zp)(s:Int):Option zp :=
 Option.bind (idx f.tickets s) fun d =>
 Option.bind (jq ([d.messages,d.notes]:List (List Int))) fun e =>
 Option.bind (Zx (fun i b=>Option.bind (idx e (i:Int)) fun j=>some (.nx (⟨b.form,b.log,b.tickets,⟨(qh b.owners.l j)⟩,b.last,⟨b.undo.l⟩,b.other⟩:zp))) e.length 0 f) fun k=>k.andThen (fun m=>some m) fun a =>
 Option.bind (idx a.tickets s) fun l =>
 Option.bind (setI a.tickets s ({ (l:zd)with messages:=([]:(List Int)) })) fun c =>
 Option.bind (idx c s) fun g =>
 Option.bind (setI c s ({ (g:zd)with notes:=([]:(List Int)) })) fun h =>
 some (⟨a.form,a.log,h,⟨a.owners.l⟩,a.last,⟨a.undo.l⟩,a.other⟩:zp)
noncomputable def jv(j:zp)(s:Int)(x:zk)(y:Int):Option zp :=
 Option.bind (idx j.tickets (w64 (x.to_-1))) fun T =>
 Option.bind (idx j.tickets s) fun U =>
 Option.bind (QS U) fun L =>
 Option.bind (QS T) fun M =>
 Option.bind (Qu j x.to_ y x.at_) fun p =>
 Option.bind (idx p.tickets s) fun h =>
 Option.bind (qT p s) fun a =>
 Option.bind (if (x.kind==7)=true then Option.bind (idx a.tickets s) fun N=>Option.bind (setI a.tickets s ({ (N:zd)with into:=x.to_ })) fun q=>Option.bind (idx q s) fun O=>Option.bind (setI q s ({ (O:zd)with status:=6 })) fun r=>Option.bind (idx r (w64 (x.to_-1))) fun t=>Option.bind (qf (⟨a.form,a.log,r,⟨a.owners.l⟩,a.last,⟨a.undo.l⟩,a.other⟩:zp) t.no t.messages h.messages) fun e=>Option.bind (idx e.2.tickets (w64 (x.to_-1))) fun P=>Option.bind (setI e.2.tickets (w64 (x.to_-1)) ({ (P:zd)with messages:=e.1 })) fun u=>Option.bind (idx u (w64 (x.to_-1))) fun v=>Option.bind (qf (⟨e.2.form,e.2.log,u,⟨e.2.owners.l⟩,e.2.last,⟨e.2.undo.l⟩,e.2.other⟩:zp) v.no v.notes h.notes) fun f=>Option.bind (idx f.2.tickets (w64 (x.to_-1))) fun Q=>Option.bind (setI f.2.tickets (w64 (x.to_-1)) ({ (Q:zd)with notes:=f.1 })) fun R=>some (⟨f.2.form,f.2.log,R,⟨f.2.owners.l⟩,f.2.last,⟨f.2.undo.l⟩,f.2.other⟩:zp) else Option.bind (QN h.messages x.message) fun w=>Option.bind (idx a.tickets s) fun S=>Option.bind (jH h.messages none (some w)) fun z=>Option.bind (qf a S.no ([]:(List Int)) z) fun b=>Option.bind (idx b.2.tickets s) fun A=>Option.bind (setI b.2.tickets s ({ (A:zd)with messages:=b.1 })) fun k=>Option.bind (idx k s) fun B=>Option.bind (qf (⟨b.2.form,b.2.log,k,⟨b.2.owners.l⟩,b.2.last,⟨b.2.undo.l⟩,b.2.other⟩:zp) B.no ([]:(List Int)) h.notes) fun c=>Option.bind (idx c.2.tickets s) fun D=>Option.bind (setI c.2.tickets s ({ (D:zd)with notes:=c.1 })) fun l=>Option.bind (idx l (w64 (x.to_-1))) fun E=>Option.bind (jH h.messages (some w) none) fun F=>Option.bind (qf (⟨c.2.form,c.2.log,l,⟨c.2.owners.l⟩,c.2.last,⟨c.2.undo.l⟩,c.2.other⟩:zp) E.no ([]:(List Int)) F) fun d=>Option.bind (idx d.2.tickets (w64 (x.to_-1))) fun G=>Option.bind (setI d.2.tickets (w64 (x.to_-1)) ({ (G:zd)with messages:=d.1 })) fun i=>Option.bind (idx i s) fun m=>Option.bind (idx i (w64 (x.to_-1))) fun H=>Option.bind (setI i (w64 (x.to_-1)) ({ (H:zd)with from_:=m.no })) fun n=>Option.bind (idx n (w64 (x.to_-1))) fun I=>Option.bind (setI n (w64 (x.to_-1)) ({ (I:zd)with priority:=m.priority })) fun o=>Option.bind (idx o (w64 (x.to_-1))) fun J=>Option.bind (setI o (w64 (x.to_-1)) ({ (J:zd)with status:=2 })) fun K=>some (⟨d.2.form,d.2.log,K,⟨d.2.owners.l⟩,d.2.last,⟨d.2.undo.l⟩,d.2.other⟩:zp)) fun g =>
 some (⟨g.form,g.log,g.tickets,⟨g.owners.l⟩,g.last,⟨(qR g.undo.l x.ticket (⟨x.kind,x.to_,y,L,M⟩:zo))⟩,g.other⟩:zp)
noncomputable def Jg(o:zp)(s:Int)(a:zo)(I:Int)(F:Int):Option zp :=
 Option.bind (idx o.tickets (w64 (a.other-1))) fun J =>
 Option.bind (Qu o a.other I F) fun f =>
 Option.bind (qT (⟨f.form,f.log,f.tickets,⟨f.owners.l⟩,f.last,⟨f.undo.l⟩,a.other⟩:zp) s) fun G =>
 Option.bind (qT G (w64 (a.other-1))) fun n =>
 Option.bind (idx n.tickets s) fun H =>
 Option.bind (qf n H.no ([]:(List Int)) a.before.messages) fun e =>
 Option.bind (idx e.2.tickets s) fun p =>
 Option.bind (setI e.2.tickets s ({ (p:zd)with messages:=e.1 })) fun h =>
 Option.bind (idx h s) fun q =>
 Option.bind (qf (⟨e.2.form,e.2.log,h,⟨e.2.owners.l⟩,e.2.last,⟨e.2.undo.l⟩,e.2.other⟩:zp) q.no ([]:(List Int)) a.before.notes) fun b =>
 Option.bind (idx b.2.tickets s) fun r =>
 Option.bind (setI b.2.tickets s ({ (r:zd)with notes:=b.1 })) fun g =>
 if (a.kind==8)=true then
  Option.bind (idx g (w64 (a.other-1))) fun t =>
  Option.bind (setI g (w64 (a.other-1)) ({ (t:zd)with status:=6 })) fun u =>
  some (⟨b.2.form,b.2.log,u,⟨b.2.owners.l⟩,b.2.last,⟨b.2.undo.l⟩,b.2.other⟩:zp)
 else
  Option.bind (idx g s) fun v =>
  Option.bind (setI g s ({ (v:zd)with status:=a.before.status })) fun i =>
  Option.bind (idx i s) fun w =>
  Option.bind (setI i s ({ (w:zd)with into:=a.before.into })) fun j =>
  Option.bind (idx j (w64 (a.other-1))) fun x =>
  Option.bind (qf (⟨b.2.form,b.2.log,j,⟨b.2.owners.l⟩,b.2.last,⟨b.2.undo.l⟩,b.2.other⟩:zp) x.no ([]:(List Int)) a.to_.messages) fun c =>
  Option.bind (idx c.2.tickets (w64 (a.other-1))) fun y =>
  Option.bind (setI c.2.tickets (w64 (a.other-1)) ({ (y:zd)with messages:=c.1 })) fun k =>
  Option.bind (idx k (w64 (a.other-1))) fun z =>
  Option.bind (qf (⟨c.2.form,c.2.log,k,⟨c.2.owners.l⟩,c.2.last,⟨c.2.undo.l⟩,c.2.other⟩:zp) z.no ([]:(List Int)) a.to_.notes) fun d =>
  Option.bind (idx d.2.tickets (w64 (a.other-1))) fun A =>
  Option.bind (setI d.2.tickets (w64 (a.other-1)) ({ (A:zd)with notes:=d.1 })) fun l =>
  Option.bind (idx l (w64 (a.other-1))) fun B =>
  Option.bind (setI l (w64 (a.other-1)) ({ (B:zd)with status:=a.to_.status })) fun m =>
  Option.bind (idx m (w64 (a.other-1))) fun D =>
  Option.bind (setI m (w64 (a.other-1)) ({ (D:zd)with into:=a.to_.into })) fun E =>
  some (⟨d.2.form,d.2.log,E,⟨d.2.owners.l⟩,d.2.last,⟨d.2.undo.l⟩,d.2.other⟩:zp)
noncomputable def ZP(b:zp)(x:zk):Option (Int×zp) :=
 Option.bind (qX b x) fun f =>
 if (f != 0)=true then
  some (f,b)
 else
  Option.bind (Zc 1599289640401 b.log ([x]:List zk)) fun g =>
  Option.bind (if ((x.kind==1)||(x.kind==8))=true then Option.bind (JC 8796093022208 (b.form.fields.length:Int) (⟨0,0,ByteArray.empty⟩:zu)) fun K=>Option.bind (Zc 977343669134 b.tickets ([(⟨w64 ((b.tickets.length:Int)+1),x.at_,0,0,0,0,0,0,K,([]:(List Int)),([]:(List Int)),0⟩:zd)]:List zd)) fun L=>Option.bind (Zc 17592186044416 b.last ([(b.log.length:Int)]:List Int)) fun i=>some (⟨b.form,g,L,⟨b.owners.l⟩,i,⟨b.undo.l⟩,b.other⟩:zp) else some (⟨b.form,g,b.tickets,⟨b.owners.l⟩,b.last,⟨b.undo.l⟩,b.other⟩:zp)) fun h =>
  Option.bind (Qu h x.ticket (b.log.length:Int) x.at_) fun a =>
  Option.bind (idx a.tickets (w64 (x.ticket-1))) fun c =>
  Option.bind (Option.bind (if (x.kind==1)=true then Option.bind (setI a.tickets (w64 (x.ticket-1)) ({ (c:zd)with status:=1 })) fun e=>Option.bind (idx e (w64 (x.ticket-1))) fun j=>Option.bind (setI e (w64 (x.ticket-1)) ({ (j:zd)with priority:=x.to_ })) fun k=>some (⟨a.form,a.log,k,⟨a.owners.l⟩,a.last,⟨a.undo.l⟩,a.other⟩:zp) else Option.bind (if (x.kind==2)=true then Option.bind (zaj a (w64 (x.ticket-1)) x) fun l=>some l else Option.bind (if (x.kind==3)=true then Option.bind (qf a c.no c.notes ([x.message]:List Int)) fun d=>Option.bind (idx d.2.tickets (w64 (x.ticket-1))) fun m=>Option.bind (setI d.2.tickets (w64 (x.ticket-1)) ({ (m:zd)with notes:=d.1 })) fun n=>some (⟨d.2.form,d.2.log,n,⟨d.2.owners.l⟩,d.2.last,⟨d.2.undo.l⟩,d.2.other⟩:zp) else Option.bind (if (x.kind==4)=true then Option.bind (idx c.values x.field) fun M=>Option.bind (setI c.values x.field x.value) fun o=>Option.bind (setI a.tickets (w64 (x.ticket-1)) ({ (c:zd)with values:=o })) fun p=>some (⟨a.form,a.log,p,⟨a.owners.l⟩,a.last,⟨a.undo.l⟩,a.other⟩:zp) else Option.bind (if (x.kind==5)=true then Option.bind (setI a.tickets (w64 (x.ticket-1)) ({ (c:zd)with status:=x.to_ })) fun q=>some (⟨a.form,a.log,q,⟨a.owners.l⟩,a.last,⟨a.undo.l⟩,a.other⟩:zp) else Option.bind (if (x.kind==6)=true then Option.bind (setI a.tickets (w64 (x.ticket-1)) ({ (c:zd)with person:=x.to_ })) fun r=>some (⟨a.form,a.log,r,⟨a.owners.l⟩,a.last,⟨a.undo.l⟩,a.other⟩:zp) else Option.bind (if (x.kind==7)=true then some (x.kind==7) else some (x.kind==8)) fun s=>Option.bind (if s=true then Option.bind (jv a (w64 (x.ticket-1)) x (b.log.length:Int)) fun t=>some t else Option.bind (if (x.kind==9)=true then Option.bind (Jg a (w64 (x.ticket-1)) ((zy h.undo.l x.ticket).getD (⟨0,0,0,⟨0,0,0,0,0,0,0,0, [], [], [],0⟩,⟨0,0,0,0,0,0,0,0, [], [], [],0⟩⟩)) (b.log.length:Int) x.at_) fun u=>some u else Option.bind (if (x.kind==10)=true then Option.bind (if (x.message==0)=true then Option.bind (idx c.values x.field) fun N=>Option.bind (setI c.values x.field (⟨0,0,ByteArray.empty⟩:zu)) fun v=>Option.bind (setI a.tickets (w64 (x.ticket-1)) ({ (c:zd)with values:=v })) fun w=>some (⟨a.form,a.log,w,⟨a.owners.l⟩,a.last,⟨a.undo.l⟩,a.other⟩:zp) else some a) fun y=>some y else some a) fun z=>some z) fun A=>some A) fun B=>some B) fun D=>some D) fun E=>some E) fun F=>some F) fun G=>some G) fun H=>some H) fun I=>some I) fun J =>
  some (0,J)
def je(b:zp)(a:Int):Option (zd×Bool) :=
 Option.bind (jl b a) fun e =>
 if (!e)=true then
  some ((⟨0,0,0,0,0,0,0,0,([]:(List zu)),([]:(List Int)),([]:(List Int)),0⟩:zd),false)
 else
  Option.bind (idx b.tickets (w64 (a-1))) fun c =>
  Option.bind (QS c) fun d =>
  some (d,true)
noncomputable def zaP(f:zK)(l:(List zk))(no:Int):Option ((List zw)×Int) :=
 Option.bind (zcN f) fun e =>
 match e.1 with
 | none =>
  if (e.2 != 0)=true then
   some (([]:(List zw)),e.2)
  else
   none
 | some R20 =>
  if (e.2 != 0)=true then
   some (([]:(List zw)),e.2)
  else
   Option.bind (Zx (fun m b=>Option.bind (α:=Lp _ _) (Option.bind (idx l (m:Int)) fun a=>Option.bind (ZP b.2.2 a) fun d=>if (d.1 != 0)=true then some (.rt (([]:(List zw)),d.1)) else if (!(((a.ticket==no)||(a.to_==no))||(a.kind==9)))=true then some (.fin (b.1,b.2.1,d.2)) else Option.bind (je d.2 no) fun c=>Option.bind (if (c.2&&(decide (b.2.1<c.1.events)))=true then Option.bind (Zc 2199023255552 b.1 ([(⟨a.at_,a.kind,a.who,c.1.status,c.1.priority,c.1.values⟩:zw)]:List zw)) fun k=>some (k,c.1.events) else some (b.1,b.2.1)) fun i=>some (.fin (i.1,i.2,d.2))) fun n=>n.andThen (fun h=>some (.rt h)) fun g=>some (.nx (g.1,g.2.1,g.2.2))) l.length 0 (([]:(List zw)),0,R20)) fun o=>o.andThen (fun h=>some h) fun j =>
   if (j.2.1==0)=true then
    some (([]:(List zw)),7)
   else
    some (j.1,0)
def QG(c:Int):Bool :=
 ((decide ((48:Int)≤c))&&(decide (c≤57)))
noncomputable def Qy(s:ByteArray):Option Bool :=
 Option.bind (if ((decide ((s.size:Int)<1))||(decide ((20:Int)<(s.size:Int))))=true then (some true) else (Option.bind (idxS s 0) fun g=>some (decide ((g.toNat:Int)<97)))) fun h =>
 Option.bind (if h=true then (some true) else (Option.bind (idxS s 0) fun i=>some (decide ((122:Int)<(i.toNat:Int))))) fun j =>
 if j=true then
  some false
 else
  Option.bind (zbK (fun a=>if (decide (a<(s.size:Int)))=true then Option.bind (idxS s a) fun b=>Option.bind (if (decide ((97:Int)≤(b.toNat:Int)))=true then (some (decide ((b.toNat:Int)≤122))) else (some false)) fun c=>Option.bind (if c=true then (some true) else (some (QG (b.toNat:Int)))) fun d=>Option.bind (if d=true then (some true) else (some ((b.toNat:Int)==95))) fun e=>if (!e)=true then some (.rt false) else some (.nx (w64 (a+1))) else some (.bk a)) 0) fun f=>f.andThen (fun k=>some k) fun l =>
  some true
def zV(n:Int)(b:Int)(a:Int):Bool :=
 ((decide (b≤n))&&(decide (n≤a)))
def Jh(l:(List ByteArray))(s:ByteArray):Option Bool :=
 Option.bind (Zx (fun b _=>Option.bind (idx l (b:Int)) fun a=>if (ZU a s)=true then some (.rt true) else some (.nx ())) l.length 0 ()) fun o3=>o3.andThen (fun c=>some c) fun d =>
 some false
noncomputable def Ji(f:zK):Option Int :=
 if (decide ((20:Int)<(f.fields.length:Int)))=true then
  some 4
 else
  Option.bind (Zx (fun e _=>Option.bind (idx f.fields (e:Int)) fun a=>Option.bind (Qy a.name) fun l=>if (!l)=true then some (.rt 3) else Option.bind (jH f.fields none (some (e:Int))) fun g=>Option.bind (Zx (fun m _=>Option.bind (idx g (m:Int)) fun n=>if (ZU n.name a.name)=true then some (.rt 6) else some (.nx ())) g.length 0 ()) fun o=>o.andThen (fun b=>some (.rt b)) fun r=>if (!(zV a.kind 1 6))=true then some (.rt 10) else if (!((a.kind==4)==(decide ((0:Int)<(a.options.length:Int)))))=true then some (.rt 1) else if (decide ((20:Int)<(a.options.length:Int)))=true then some (.rt 4) else Option.bind (Zx (fun c _=>Option.bind (idx a.options (c:Int)) fun d=>Option.bind (Qy d) fun h=>if (!h)=true then some (.rt 3) else Option.bind (jH a.options none (some (c:Int))) fun i=>Option.bind (Jh i d) fun j=>if j=true then some (.rt 6) else some (.nx ())) a.options.length 0 ()) fun k=>k.andThen (fun b=>some (.rt b)) fun q=>if (!(zV a.needs 0 6))=true then some (.rt 2) else some (.nx ())) f.fields.length 0 ()) fun p=>p.andThen (fun b=>some b) fun s =>
  some 0
def zaG(f:zK):Option zB :=
 some (⟨f,([]:(List zd)),([]:(List zk)),([]:(List Int)),([]:(List zE))⟩:zB)
def zbr(e:zk):Option Bool :=
 some ((((((e.kind==4)||((e.kind==10)&&(e.message==0)))||(e.field==0))&&(((e.kind==1)||((decide ((5:Int)≤e.kind))&&(decide (e.kind≤8))))||(e.to_==0)))&&(((((e.kind==2)||(e.kind==3))||(e.kind==8))||(e.kind==10))||(e.message==0)))&&((e.kind==4)||(e.value.kind==0&&(e.value.int==0&&(ZU e.value.text ByteArray.empty)))))
def jm(a:zB)(e:zk):Option Int :=
 if (decide ((400:Int)≤(a.states.length:Int)))=true then
  some 16
 else
  if (e.ticket != (w64 ((a.states.length:Int)+1)))=true then
   some 5
  else
   if (!(zV e.to_ 1 4))=true then
    some 2
   else
    some 0
def jX(a:zB)(no:Int):Option (Option zd) :=
 if (!(zV no 1 (a.states.length:Int)))=true then
  some none
 else
  Option.bind (idx a.states (w64 (no-1))) fun b =>
  some (some b)
def qv(l:(List Int))(n:Int):Option Bool :=
 Option.bind (Zx (fun b _=>Option.bind (idx l (b:Int)) fun a=>if (a==n)=true then some (.rt true) else some (.nx ())) l.length 0 ()) fun o3=>o3.andThen (fun c=>some c) fun d =>
 some false
def jy(c:zB)(b:Int):Option Int :=
 Option.bind (Zx (fun g _=>Option.bind (idx c.states (g:Int)) fun a=>Option.bind (qv a.messages b) fun d=>Option.bind (if d=true then (some true) else (Option.bind (qv a.notes b) fun e=>some e)) fun f=>if f=true then some (.rt a.no) else some (.nx ())) c.states.length 0 ()) fun h=>h.andThen (fun i=>some i) fun j =>
 some 0
def zbc(v:zu):Option Bool :=
 some ((((v.kind != 0)||(v.int==0))&&((v.kind==3)||(ZU v.text (⟨#[]⟩:ByteArray))))&&((v.kind != 3)||(v.int==0)))
noncomputable def zay(s:ByteArray)(c:Bool):Option Bool :=
 Option.bind (zbK (fun a=>if (decide (a<(s.size:Int)))=true then Option.bind (idxS s a) fun b=>Option.bind (if (decide ((b.toNat:Int)<32))=true then (Option.bind (if c=true then (some ((b.toNat:Int)==9)) else (some false)) fun d=>some (!d)) else (some false)) fun e=>if e=true then some (.rt true) else some (.nx (w64 (a+1))) else some (.bk a)) 0) fun f=>f.andThen (fun g=>some g) fun h =>
 some false
noncomputable def jU(x:zS)(v:zu):Option Int :=
 Option.bind (zbc v) fun a =>
 if (!a)=true then
  some 1
 else
  if ((v.kind != 0)&&(v.kind != x.kind))=true then
   some 10
  else
   Option.bind (Option.bind (if (v.kind==1)=true then some (zV v.int 0 1) else Option.bind (if (v.kind==4)=true then some (zV v.int 0 (w64 ((x.options.length:Int)-1))) else Option.bind (if (v.kind==5)=true then some (zV v.int 0 3000000) else Option.bind (if (v.kind==6)=true then some (zV v.int 1 40) else Option.bind (if (v.kind==2)=true then some (zV v.int (-1000000000) 1000000000) else some true) fun b=>some b) fun c=>some c) fun d=>some d) fun e=>some e) fun f=>some f) fun g =>
   if (!g)=true then
    some 2
   else
    if (decide ((200:Int)<(v.text.size:Int)))=true then
     some 4
    else
     Option.bind (zay v.text false) fun h =>
     if h=true then
      some 9
     else
      some 0
noncomputable def QR(c:zB)(s:zd)(e:zk):Option Int :=
 if (!(zV e.field 0 (w64 ((c.form.fields.length:Int)-1))))=true then
  some 7
 else
  Option.bind (idx c.form.fields e.field) fun a =>
  Option.bind (jU a e.value) fun b =>
  if (b != 0)=true then
   some b
  else
   if (e.who==0)=true then
    some 12
   else
    if (s.status==6)=true then
     some 11
    else
     if (((e.value.kind==0)&&(a.needs != 0))&&(decide (a.needs≤s.status)))=true then
      some 1
     else
      some 0
def ju(b:Int)(a:Int):Bool :=
 if (b==1)=true then
  (zV a 2 5)
 else
  if (b==2)=true then
   (zV a 3 5)
  else
   if (b==3)=true then
    (((a==4)||(a==2))||(a==5))
   else
    if (b==4)=true then
     (((a==3)||(a==2))||(a==5))
    else
     if (b==5)=true then
      ((a==2)||(a==6))
     else
      false
def QI(c:zB)(s:zd)(e:zk):Option Int :=
 if (!(zV e.to_ 1 6))=true then
  some 2
 else
  if (!(ju s.status e.to_))=true then
   some 11
  else
   if ((e.who==0)&&(!((s.status==5)&&(e.to_==2))))=true then
    some 12
   else
    Option.bind (Zx (fun a _=>Option.bind (idx c.form.fields (a:Int)) fun b=>Option.bind (if ((b.needs != 0)&&(decide (b.needs≤e.to_)))=true then (Option.bind (idx s.values (a:Int)) fun d=>some (d.kind==0)) else (some false)) fun f=>if f=true then some (.rt 1) else some (.nx ())) c.form.fields.length 0 ()) fun g=>g.andThen (fun h=>some h) fun i =>
    some 0
def QC(b:zB)(s:zd)(e:zk):Option Int :=
 Option.bind (jX b e.to_) fun a =>
 match a with
 | none =>
  some 7
 | some s13 =>
  if (e.to_==e.ticket)=true then
   some 13
  else
   if (s13.into != 0)=true then
    some 11
   else
    if (e.who==0)=true then
     some 12
    else
     if ((s.status==6)||(s13.status==6))=true then
      some 11
     else
      some 0
def QH(a:zB)(s:zd)(e:zk):Option Int :=
 if (decide ((400:Int)≤(a.states.length:Int)))=true then
  some 16
 else
  if (e.to_ != (w64 ((a.states.length:Int)+1)))=true then
   some 5
  else
   Option.bind (qv s.messages e.message) fun b =>
   if (!b)=true then
    some 7
   else
    Option.bind (idx s.messages 0) fun c =>
    if (c==e.message)=true then
     some 1
    else
     if (e.who==0)=true then
      some 12
     else
      if (s.status==6)=true then
       some 11
      else
       some 0
def QD(b:zB)(e:zk):Option Int :=
 if (e.who==0)=true then
  some 12
 else
  Option.bind (idx b.last (w64 (e.ticket-1))) fun c =>
  Option.bind (idx b.log c) fun a =>
  if ((a.ticket != e.ticket)||((a.kind != 7)&&(a.kind != 8)))=true then
   some 7
  else
   Option.bind (idx b.last (w64 (a.to_-1))) fun d =>
   if (d != c)=true then
    some 11
   else
    some 0
noncomputable def qx(b:zB)(e:zk):Option Int :=
 if (decide ((6000:Int)≤(b.log.length:Int)))=true then
  some 16
 else
  if (!(zV e.kind 1 10))=true then
   some 10
  else
   Option.bind (zbr e) fun v =>
   if (!v)=true then
    some 1
   else
    if ((!(zV e.at_ 0 3000000))||(!(zV e.who (-1) 40)))=true then
     some 2
    else
     Option.bind (if (decide ((0:Int)<(b.log.length:Int)))=true then (Option.bind (idx b.log (w64 ((b.log.length:Int)-1))) fun w=>some (decide (e.at_<w.at_))) else (some false)) fun x =>
     if x=true then
      some 5
     else
      if (e.kind==1)=true then
       Option.bind (jm b e) fun y =>
       some y
      else
       Option.bind (jX b e.ticket) fun z =>
       match z with
       | none =>
        some 7
       | some s63 =>
        if (((s63.into != 0)&&(e.kind != 10))&&(e.kind != 9))=true then
         some 11
        else
         Option.bind (α:=Lp _ _) (Option.bind (if (e.kind==2)=true then some (e.kind==2) else some (e.kind==3)) fun A=>Option.bind (α:=Lp _ _) (if A=true then if (!(zV e.message 1 1000))=true then some (.rt 2) else Option.bind (jy b e.message) fun d=>if (decide ((0:Int)<d))=true then some (.rt 6) else if ((e.kind==3)&&(e.who==0))=true then some (.rt 12) else some (.fin ()) else Option.bind (α:=Lp _ _) (if (e.kind==4)=true then Option.bind (QR b s63 e) fun f=>some (.rt f) else Option.bind (α:=Lp _ _) (if (e.kind==5)=true then Option.bind (QI b s63 e) fun g=>some (.rt g) else Option.bind (α:=Lp _ _) (if (e.kind==6)=true then if (!(zV e.to_ 0 40))=true then some (.rt 2) else if (e.who==0)=true then some (.rt 12) else if (e.to_==s63.person)=true then some (.rt 6) else some (.fin ()) else Option.bind (α:=Lp _ _) (if (e.kind==7)=true then Option.bind (QC b s63 e) fun h=>some (.rt h) else Option.bind (α:=Lp _ _) (if (e.kind==8)=true then Option.bind (QH b s63 e) fun i=>some (.rt i) else Option.bind (α:=Lp _ _) (if (e.kind==9)=true then Option.bind (QD b e) fun j=>some (.rt j) else Option.bind (α:=Lp _ _) (if (e.kind==10)=true then if (e.who==0)=true then some (.rt 12) else Option.bind (if (e.message != 0)=true then (Option.bind (qv s63.messages e.message) fun k=>some (!k)) else (some false)) fun l=>Option.bind (if l=true then (Option.bind (qv s63.notes e.message) fun m=>some (!m)) else (some false)) fun c=>Option.bind (if c=true then some c else some ((e.message==0)&&(!(zV e.field 0 (w64 ((b.form.fields.length:Int)-1)))))) fun n=>if n=true then some (.rt 7) else some (.fin ()) else some (.fin ())) fun o=>o.andThen (fun a=>some (.rt a)) fun E=>some (.fin ())) fun p=>p.andThen (fun a=>some (.rt a)) fun F=>some (.fin ())) fun q=>q.andThen (fun a=>some (.rt a)) fun G=>some (.fin ())) fun r=>r.andThen (fun a=>some (.rt a)) fun H=>some (.fin ())) fun s=>s.andThen (fun a=>some (.rt a)) fun I=>some (.fin ())) fun t=>t.andThen (fun a=>some (.rt a)) fun J=>some (.fin ())) fun u=>u.andThen (fun a=>some (.rt a)) fun K=>some (.fin ())) fun B=>B.andThen (fun a=>some (.rt a)) fun L=>some (.fin ())) fun D=>D.andThen (fun a=>some a) fun M =>
         some 0
def ZB(a:zB)(no:Int)(d:Int)(e:Int):Option zB :=
 Option.bind (idx a.last (w64 (no-1))) fun i =>
 Option.bind (setI a.last (w64 (no-1)) d) fun f =>
 Option.bind (idx a.states (w64 (no-1))) fun b =>
 Option.bind (setI a.states (w64 (no-1)) ({ (b:zd)with events:=w64 (b.events+1) })) fun c =>
 Option.bind (idx c (w64 (no-1))) fun g =>
 Option.bind (setI c (w64 (no-1)) ({ (g:zd)with changed:=e })) fun h =>
 some (⟨a.form,h,a.log,f,a.before⟩:zB)
def Qw(l:(List Int))(n:Int):Option (List Int) :=
 Option.bind (Zx (fun i a=>Option.bind (idx l (i:Int)) fun c=>Option.bind (if ((!a.2)&&(decide (n<c)))=true then Option.bind (Zc 17592186044416 a.1 ([n]:List Int)) fun e=>some (e,true) else some (a.1,a.2)) fun d=>Option.bind (Zc 17592186044416 d.1 ([c]:List Int)) fun f=>some (.nx (f,d.2))) l.length 0 (([]:(List Int)),false)) fun o3=>o3.andThen (fun j=>some j) fun b =>
 Option.bind (if (!b.2)=true then Option.bind (Zc 17592186044416 b.1 ([n]:List Int)) fun g=>some g else some b.1) fun h =>
 some h
def jL(s:zd):Option zd :=
 Option.bind (Zc 4398046511104 ([]:List zu) s.values) fun a =>
 Option.bind (Zc 17592186044416 ([]:List Int) s.messages) fun b =>
 Option.bind (Zc 17592186044416 ([]:List Int) s.notes) fun c =>
 some (⟨s.no,s.opened,s.changed,s.status,s.priority,s.person,s.into,s.from_,a,b,c,s.events⟩:zd)
def JD(b:zB)(e:zk)(n:Int):Option zB :=
 Option.bind (idx b.last (w64 (e.ticket-1))) fun o =>
 Option.bind (idx b.log o) fun a =>
 Option.bind (Zx (fun F G=>Option.bind (Option.bind (idx b.before (F:Int)) fun f=>Option.bind (if (f.event==o)=true then some f else some G) fun p=>some p) fun H=>some (.nx H)) b.before.length 0 (⟨0,(⟨0,0,0,0,0,0,0,0,([]:(List zu)),([]:(List Int)),([]:(List Int)),0⟩:zd),(⟨0,0,0,0,0,0,0,0,([]:(List zu)),([]:(List Int)),([]:(List Int)),0⟩:zd)⟩:zE)) fun I=>I.andThen (fun J=>some J) fun c =>
 Option.bind (idx b.states (w64 (e.ticket-1))) fun q =>
 Option.bind (idx b.states (w64 (a.to_-1))) fun K =>
 Option.bind (setI b.states (w64 (e.ticket-1)) ({ (q:zd)with status:=c.one.status })) fun g =>
 Option.bind (idx g (w64 (e.ticket-1))) fun r =>
 Option.bind (setI g (w64 (e.ticket-1)) ({ (r:zd)with into:=c.one.into })) fun h =>
 Option.bind (idx h (w64 (e.ticket-1))) fun s =>
 Option.bind (setI h (w64 (e.ticket-1)) ({ (s:zd)with messages:=c.one.messages })) fun i =>
 Option.bind (idx i (w64 (e.ticket-1))) fun t =>
 Option.bind (setI i (w64 (e.ticket-1)) ({ (t:zd)with notes:=c.one.notes })) fun d =>
 Option.bind (if (a.kind==7)=true then Option.bind (idx d (w64 (a.to_-1))) fun u=>Option.bind (setI d (w64 (a.to_-1)) ({ (u:zd)with status:=c.other.status })) fun j=>Option.bind (idx j (w64 (a.to_-1))) fun v=>Option.bind (setI j (w64 (a.to_-1)) ({ (v:zd)with into:=c.other.into })) fun k=>Option.bind (idx k (w64 (a.to_-1))) fun w=>Option.bind (setI k (w64 (a.to_-1)) ({ (w:zd)with messages:=c.other.messages })) fun l=>Option.bind (idx l (w64 (a.to_-1))) fun x=>Option.bind (setI l (w64 (a.to_-1)) ({ (x:zd)with notes:=c.other.notes })) fun y=>some (⟨b.form,y,b.log,b.last,b.before⟩:zB) else Option.bind (idx d (w64 (a.to_-1))) fun z=>Option.bind (setI d (w64 (a.to_-1)) ({ (z:zd)with status:=6 })) fun m=>Option.bind (idx m (w64 (a.to_-1))) fun A=>Option.bind (setI m (w64 (a.to_-1)) ({ (A:zd)with messages:=([]:(List Int)) })) fun B=>some (⟨b.form,B,b.log,b.last,b.before⟩:zB)) fun D =>
 Option.bind (ZB D a.to_ n e.at_) fun E =>
 some E
noncomputable def ZD(a:zB)(e:zk):Option (Int×zB) :=
 Option.bind (qx a e) fun y =>
 if (y != 0)=true then
  some (y,a)
 else
  Option.bind (Zc 1599289640401 a.log ([e]:List zk)) fun d =>
  if (e.kind==1)=true then
   Option.bind (JC 8796093022208 (a.form.fields.length:Int) (⟨0,0,ByteArray.empty⟩:zu)) fun d0 =>
   Option.bind (Zc 977343669134 a.states ([(⟨e.ticket,e.at_,0,1,e.to_,0,0,0,d0,([]:(List Int)),([]:(List Int)),0⟩:zd)]:List zd)) fun d1 =>
   Option.bind (Zc 17592186044416 a.last ([(a.log.length:Int)]:List Int)) fun d2 =>
   Option.bind (ZB (⟨a.form,d1,d,d2,a.before⟩:zB) e.ticket (a.log.length:Int) e.at_) fun P =>
   some (0,P)
  else
   Option.bind (idx a.states (w64 (e.ticket-1))) fun b =>
   Option.bind (Option.bind (if (e.kind==2)=true then Option.bind (Qw b.messages e.message) fun Q=>Option.bind (setI a.states (w64 (e.ticket-1)) ({ (b:zd)with messages:=Q })) fun l=>Option.bind (idx l (w64 (e.ticket-1))) fun j=>Option.bind (if (((e.who==0)&&((j.status==3)||(j.status==5)))||((decide ((0:Int)<e.who))&&(j.status==1)))=true then Option.bind (setI l (w64 (e.ticket-1)) ({ (j:zd)with status:=2 })) fun R=>some (⟨a.form,R,d,a.last,a.before⟩:zB) else some (⟨a.form,l,d,a.last,a.before⟩:zB)) fun S=>some S else Option.bind (if (e.kind==3)=true then Option.bind (Qw b.notes e.message) fun T=>Option.bind (setI a.states (w64 (e.ticket-1)) ({ (b:zd)with notes:=T })) fun U=>some (⟨a.form,U,d,a.last,a.before⟩:zB) else Option.bind (if (e.kind==4)=true then Option.bind (idx b.values e.field) fun d5=>Option.bind (setI b.values e.field e.value) fun W=>Option.bind (setI a.states (w64 (e.ticket-1)) ({ (b:zd)with values:=W })) fun X=>some (⟨a.form,X,d,a.last,a.before⟩:zB) else Option.bind (if (e.kind==5)=true then Option.bind (setI a.states (w64 (e.ticket-1)) ({ (b:zd)with status:=e.to_ })) fun Z=>some (⟨a.form,Z,d,a.last,a.before⟩:zB) else Option.bind (if (e.kind==6)=true then Option.bind (setI a.states (w64 (e.ticket-1)) ({ (b:zd)with person:=e.to_ })) fun a0=>some (⟨a.form,a0,d,a.last,a.before⟩:zB) else Option.bind (if (e.kind==7)=true then Option.bind (idx a.states (w64 (e.to_-1))) fun a1=>Option.bind (jL b) fun a2=>Option.bind (jL a1) fun a3=>Option.bind (Zc 475464487686 a.before ([(⟨(a.log.length:Int),a2,a3⟩:zE)]:List zE)) fun a4=>Option.bind (Zx (R:=Empty) (fun a5 f=>Option.bind (idx b.messages (a5:Int)) fun a6=>Option.bind (idx f.states (w64 (e.to_-1))) fun r=>Option.bind (Qw r.messages a6) fun a7=>Option.bind (setI f.states (w64 (e.to_-1)) ({ (r:zd)with messages:=a7 })) fun a8=>some (.nx (⟨f.form,a8,f.log,f.last,f.before⟩:zB))) b.messages.length 0 (⟨a.form,a.states,d,a.last,a4⟩:zB)) fun a9=>a9.andThen (fun i=>i.elim) fun s=>Option.bind (idx s.states (w64 (e.ticket-1))) fun t=>Option.bind (Zx (R:=Empty) (fun b0 g=>Option.bind (idx t.notes (b0:Int)) fun b1=>Option.bind (idx g.states (w64 (e.to_-1))) fun u=>Option.bind (Qw u.notes b1) fun b2=>Option.bind (setI g.states (w64 (e.to_-1)) ({ (u:zd)with notes:=b2 })) fun b3=>some (.nx (⟨g.form,b3,g.log,g.last,g.before⟩:zB))) t.notes.length 0 s) fun b4=>b4.andThen (fun i=>i.elim) fun h=>Option.bind (idx h.states (w64 (e.ticket-1))) fun b5=>Option.bind (setI h.states (w64 (e.ticket-1)) ({ (b5:zd)with into:=e.to_ })) fun v=>Option.bind (idx v (w64 (e.ticket-1))) fun b6=>Option.bind (setI v (w64 (e.ticket-1)) ({ (b6:zd)with status:=6 })) fun w=>Option.bind (idx w (w64 (e.ticket-1))) fun b7=>Option.bind (setI w (w64 (e.ticket-1)) ({ (b7:zd)with messages:=([]:(List Int)) })) fun x=>Option.bind (idx x (w64 (e.ticket-1))) fun b8=>Option.bind (setI x (w64 (e.ticket-1)) ({ (b8:zd)with notes:=([]:(List Int)) })) fun b9=>some (⟨h.form,b9,h.log,h.last,h.before⟩:zB) else Option.bind (if (e.kind==8)=true then Option.bind (jL b) fun c0=>Option.bind (Zc 475464487686 a.before ([(⟨(a.log.length:Int),c0,(⟨0,0,0,0,0,0,0,0,([]:(List zu)),([]:(List Int)),([]:(List Int)),0⟩:zd)⟩:zE)]:List zE)) fun c1=>Option.bind (JC 8796093022208 (a.form.fields.length:Int) (⟨0,0,ByteArray.empty⟩:zu)) fun z=>Option.bind (Zx (R:=Empty) (fun A c=>Option.bind (Option.bind (idx b.messages (A:Int)) fun k=>Option.bind (if (decide (k<e.message))=true then Option.bind (Zc 17592186044416 c.1 ([k]:List Int)) fun B=>some (B,c.2) else Option.bind (Zc 17592186044416 c.2.messages ([k]:List Int)) fun D=>some (c.1,(⟨c.2.no,c.2.opened,c.2.changed,c.2.status,c.2.priority,c.2.person,c.2.into,c.2.from_,c.2.values,D,c.2.notes,c.2.events⟩:zd))) fun m=>some (m.1,m.2)) fun n=>some (.nx (n.1,n.2))) b.messages.length 0 (([]:(List Int)),(⟨e.to_,e.at_,0,2,b.priority,0,0,e.ticket,z,([]:(List Int)),([]:(List Int)),0⟩:zd))) fun E=>E.andThen (fun i=>i.elim) fun o=>Option.bind (setI a.states (w64 (e.ticket-1)) ({ (b:zd)with messages:=o.1 })) fun F=>Option.bind (Zc 977343669134 F ([o.2]:List zd)) fun p=>Option.bind (Zc 17592186044416 a.last ([(a.log.length:Int)]:List Int)) fun G=>Option.bind (idx p (w64 (e.ticket-1))) fun d3=>some (⟨a.form,p,d,G,c1⟩:zB) else Option.bind (if (e.kind==9)=true then Option.bind (JD (⟨a.form,a.states,d,a.last,a.before⟩:zB) e (a.log.length:Int)) fun H=>some H else Option.bind (if (e.kind==10)=true then Option.bind (if (e.message==0)=true then Option.bind (idx b.values e.field) fun d4=>Option.bind (setI b.values e.field (⟨0,0,ByteArray.empty⟩:zu)) fun I=>Option.bind (setI a.states (w64 (e.ticket-1)) ({ (b:zd)with values:=I })) fun J=>some (⟨a.form,J,d,a.last,a.before⟩:zB) else some (⟨a.form,a.states,d,a.last,a.before⟩:zB)) fun K=>some K else some (⟨a.form,a.states,d,a.last,a.before⟩:zB)) fun L=>some L) fun M=>some M) fun c2=>some c2) fun c3=>some c3) fun c4=>some c4) fun c5=>some c5) fun c6=>some c6) fun c7=>some c7) fun c8=>some c8) fun c9 =>
   Option.bind (ZB c9 e.ticket (a.log.length:Int) e.at_) fun q =>
   Option.bind (if ((e.kind==7)||(e.kind==8))=true then Option.bind (ZB q e.to_ (a.log.length:Int) e.at_) fun N=>some N else some q) fun O =>
   some (0,O)
def jN(e:zk)(no:Int)(a:(List (Int×zk))):Option Bool :=
 if (e.ticket==no)=true then
  some true
 else
  if (e.kind==9)=true then
   some ((((zy a e.ticket).getD (⟨0,0,0,0,0,0,0,⟨0,0,ByteArray.empty⟩⟩)).to_)==no)
  else
   some ((e.to_==no)&&((e.kind==7)||(e.kind==8)))
def qw(s:(List zu)):Option (List zu) :=
 Option.bind (Zc 4398046511104 ([]:List zu) s) fun a =>
 some a
noncomputable def Jj(f:zK)(l:(List zk))(no:Int):Option ((List zw)×Int) :=
 Option.bind (Ji f) fun h =>
 if (h != 0)=true then
  some (([]:(List zw)),h)
 else
  Option.bind (zaG f) fun p =>
  Option.bind (Zx (fun q b=>Option.bind (α:=Lp _ _) (Option.bind (idx l (q:Int)) fun a=>Option.bind (ZD b.2.2 a) fun c=>if (c.1 != 0)=true then some (.rt (([]:(List zw)),c.1)) else Option.bind (jN a no b.2.1) fun j=>Option.bind (if j=true then Option.bind (idx c.2.states (w64 (no-1))) fun d=>Option.bind (qw d.values) fun k=>Option.bind (Zc 2199023255552 b.1 ([(⟨a.at_,a.kind,a.who,d.status,d.priority,k⟩:zw)]:List zw)) fun m=>some m else some b.1) fun n=>Option.bind (if ((a.kind==7)||(a.kind==8))=true then some (qR b.2.1 a.ticket a) else some b.2.1) fun o=>some (.fin (n,o,c.2))) fun o89=>o89.andThen (fun g=>some (.rt g)) fun e=>some (.nx (e.1,e.2.1,e.2.2))) l.length 0 (([]:(List zw)),([]:List (Int×zk)),p)) fun r=>r.andThen (fun g=>some g) fun i =>
  if ((decide (no<1))||(decide ((i.2.2.states.length:Int)<no)))=true then
   some (([]:(List zw)),7)
  else
   some (i.1,0)
def ZO(a:(List zw))(b:(List zw))(g:zw→zw→Option Bool):Option Bool :=
 if ((a.length:Int) != (b.length:Int))=true then
  some false
 else
  Option.bind (Zx (fun c _=>Option.bind (idx a (c:Int)) fun d=>Option.bind (idx b (c:Int)) fun e=>Option.bind (g d e) fun f=>if (!f)=true then some (.rt false) else some (.nx ())) a.length 0 ()) fun h=>h.andThen (fun i=>some i) fun j =>
  some true
def zP(c:(List zu))(d:(List zu)):Option Bool :=
 if ((c.length:Int) != (d.length:Int))=true then
  some false
 else
  Option.bind (Zx (fun e _=>Option.bind (idx c (e:Int)) fun a=>Option.bind (idx d (e:Int)) fun b=>if (!(a.kind==b.kind&&(a.int==b.int&&(ZU a.text b.text))))=true then some (.rt false) else some (.nx ())) c.length 0 ()) fun f=>f.andThen (fun g=>some g) fun h =>
  some true
def Jb(a:zw)(b:zw):Option Bool :=
 Option.bind (if (a.at_==b.at_)=true then (if (a.kind==b.kind)=true then (if (a.who==b.who)=true then (if (a.status==b.status)=true then (if (a.priority==b.priority)=true then (Option.bind (zP a.values b.values) fun o=>some o) else (some false)) else (if false=true then (Option.bind (zP a.values b.values) fun p=>some p) else (some false))) else (if false=true then (if (a.priority==b.priority)=true then (Option.bind (zP a.values b.values) fun q=>some q) else (some false)) else (if false=true then (Option.bind (zP a.values b.values) fun r=>some r) else (some false)))) else (if false=true then (if (a.status==b.status)=true then (if (a.priority==b.priority)=true then (Option.bind (zP a.values b.values) fun c=>some c) else (some false)) else (if false=true then (Option.bind (zP a.values b.values) fun d=>some d) else (some false))) else (if false=true then (if (a.priority==b.priority)=true then (Option.bind (zP a.values b.values) fun e=>some e) else (some false)) else (if false=true then (Option.bind (zP a.values b.values) fun f=>some f) else (some false))))) else (if false=true then (if (a.who==b.who)=true then (if (a.status==b.status)=true then (if (a.priority==b.priority)=true then (Option.bind (zP a.values b.values) fun g=>some g) else (some false)) else (if false=true then (Option.bind (zP a.values b.values) fun h=>some h) else (some false))) else (if false=true then (if (a.priority==b.priority)=true then (Option.bind (zP a.values b.values) fun i=>some i) else (some false)) else (if false=true then (Option.bind (zP a.values b.values) fun j=>some j) else (some false)))) else (if false=true then (if (a.status==b.status)=true then (if (a.priority==b.priority)=true then (Option.bind (zP a.values b.values) fun k=>some k) else (some false)) else (if false=true then (Option.bind (zP a.values b.values) fun l=>some l) else (some false))) else (if false=true then (if (a.priority==b.priority)=true then (Option.bind (zP a.values b.values) fun m=>some m) else (some false)) else (if false=true then (Option.bind (zP a.values b.values) fun n=>some n) else (some false)))))) fun s =>
 some s
def zaC(e:(List zw))(b:(List zw)):Option Bool :=
 Option.bind (if true=true then (Option.bind (ZO e b (fun a c=>Jb a c)) fun d=>some d) else (some false)) fun f =>
 some f
noncomputable def Jq(f:zK)(l:(List zk))(no:Int):Option Bool :=
 Option.bind (zaP f l no) fun a =>
 Option.bind (Jj f l no) fun b =>
 Option.bind (if (a.2==b.2)=true then (Option.bind (zaC a.1 b.1) fun c=>some c) else (some false)) fun d =>
 some d
end Go.Proofs.YtcnidlpginehjaaGreat.M
