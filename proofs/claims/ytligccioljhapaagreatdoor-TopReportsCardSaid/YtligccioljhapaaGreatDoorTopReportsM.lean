import Derived.Test.YtligccioljhapaaGreatDoorPu
import Derived.Lib.Bytealg
import Derived.Lib.Index
import Derived.Lib.Split
import Derived.Test.YtligccioljhapaaGreatDoorPt
namespace Go.Proofs.YtligccioljhapaaGreatDoor.M
open Go Go.Pu
set_option linter.unusedVariables false
set_option linter.unusedSimpArgs false
structure NilS where
 mk ::
structure zF where
 name:ByteArray
 kind:Int
 options:(List ByteArray)
 needs:Int
structure zr where
 fields:(List zF)
structure qq where
 name:ByteArray
 local_:ByteArray
 domain:ByteArray
structure zaH where
 pauses:(List Int)
 levels:NilS
structure JP where
 groups:NilS
structure Jb where
 form:zr
 key:Int
 box:qq
 skill:Int
 calendars:NilS
 promises:zaH
 people:NilS
 steps:NilS
 triggers:NilS
 autos:NilS
 guard:JP
structure api_Value where
 kind:Int
 int:Int
 text:ByteArray
structure zk where
 at_:Int
 ticket:Int
 who:Int
 kind:Int
 field:Int
 to_:Int
 message:Int
 value:api_Value
structure za where
 no:Int
 opened:Int
 changed:Int
 status:Int
 priority:Int
 person:Int
 into:Int
 from_:Int
 values:(List api_Value)
 messages:(List Int)
 notes:(List Int)
 events:Int
structure zl where
 kind:Int
 other:Int
 event:Int
 before:za
 to_:za
structure ticket_Desk where
 form:zr
 log:(List zk)
 tickets:(List za)
 owners:(Fmap Int Int)
 last:(List Int)
 undo:(Rmap Int zl)
 other:Int
structure Zm where
 rows:(List api_Value)
 columns:(List api_Value)
 counts:(List (List Int))
structure qS where
 at_:Int
 offset:Int
structure zP where
 offset:Int
 changes:(List qS)
structure desk_Day where
 day:Int
 opened:Int
 said:Int
 replied:Int
 solved:Int
 closed:Int
structure zH where
 event:Int
 ticket:Int
 before:Int
 after:Int
def zcX(l:List Int):Option (List Int):=if l.length<4611686018427387904 then some (l.mergeSort fun a b=>decide (a≤b)) else none
noncomputable def jZ(s:ByteArray):Option Bool :=
 Option.bind (jO (fun b=>if (decide (b<(s.size:Int)))=true then Option.bind (idxS s b) fun a=>if ((!((decide ((97:Int)≤(a.toNat:Int)))&&(decide ((a.toNat:Int)≤122))))&&((b==0)||((!((decide ((48:Int)≤(a.toNat:Int)))&&(decide ((a.toNat:Int)≤57))))&&((a.toNat:Int) != 95))))=true then some (.rt false) else some (.nx (w64 (b+1))) else some (.bk b)) 0) fun c=>c.andThen (fun d=>some d) fun e =>
 some ((!(Zw s (⟨#[]⟩:ByteArray)))&&(decide ((s.size:Int)≤20)))
def qL(s:(List zF))(f:zF→Option Bool):Option Int :=
 Option.bind (zG (fun a _=>Option.bind (idx s (a:Int)) fun b=>Option.bind (f b) fun c=>if c=true then some (.rt (a:Int)) else some (.nx ())) s.length 0 ()) fun o3=>o3.andThen (fun d=>some d) fun e =>
 some (-1)
def ZC(s:(List zF))(f:zF→Option Bool):Option Bool :=
 Option.bind (qL s f) fun a =>
 some (decide ((0:Int)≤a))
def QM(y:zF)(a:zF):Option Bool :=
 some (Zw a.name y.name)
def zt(n:Int)(b:Int)(a:Int):Bool :=
 ((decide (b≤n))&&(decide (n≤a)))
def jf(s:(List ByteArray))(v:ByteArray):Option Int :=
 Option.bind (zG (fun a _=>Option.bind (idx s (a:Int)) fun b=>if (Zw v b)=true then some (.rt (a:Int)) else some (.nx ())) s.length 0 ()) fun o3=>o3.andThen (fun c=>some c) fun d =>
 some (-1)
def ZX(s:(List ByteArray))(v:ByteArray):Option Bool :=
 Option.bind (jf s v) fun a =>
 some (decide ((0:Int)≤a))
noncomputable def jQ(x:zF):Option Int :=
 if (!((x.kind==4)==(decide ((0:Int)<(x.options.length:Int)))))=true then
  some 1
 else
  if (decide ((20:Int)<(x.options.length:Int)))=true then
   some 4
  else
   Option.bind (zG (fun a _=>Option.bind (idx x.options (a:Int)) fun b=>Option.bind (jZ b) fun c=>if (!c)=true then some (.rt 3) else Option.bind (jE x.options none (some (a:Int))) fun d=>Option.bind (ZX d b) fun e=>if e=true then some (.rt 6) else some (.nx ())) x.options.length 0 ()) fun o24=>o24.andThen (fun f=>some f) fun g =>
   some 0
noncomputable def QO(f:zr):Option Int :=
 if (decide ((20:Int)<(f.fields.length:Int)))=true then
  some 4
 else
  Option.bind (zG (fun b _=>Option.bind (idx f.fields (b:Int)) fun a=>Option.bind (jZ a.name) fun d=>if (!d)=true then some (.rt 3) else Option.bind (jE f.fields none (some (b:Int))) fun e=>Option.bind (ZC e (fun g=>QM g a)) fun h=>if h=true then some (.rt 6) else if (!(zt a.kind 1 6))=true then some (.rt 10) else Option.bind (jQ a) fun c=>if (c != 0)=true then some (.rt c) else if (!(zt a.needs 0 6))=true then some (.rt 2) else some (.nx ())) f.fields.length 0 ()) fun i=>i.andThen (fun j=>some j) fun l =>
  some 0
def zgG(s:ByteArray)(a:ByteArray)(b:Int)(n:Int):Option (List ByteArray) :=
 if s.size<4294967281∧1≤a.size∧0≤b∧b≤(a.size:Int)∧n = -1 then some (Go.Lib.splitB a b.toNat (min (Go.Lib.countB s a+1) (s.size+1)-1) s) else none
def zii(s:ByteArray)(a:ByteArray):Option (List ByteArray) :=
 Option.bind (zgG s a 0 (-1)) fun b =>
 some b
noncomputable def zaM(s:ByteArray)(f:Int→Option Bool):Option Bool :=
 Option.bind (jO (fun a=>if (decide (a<(s.size:Int)))=true then Option.bind (idxS s a) fun b=>Option.bind (f (b.toNat:Int)) fun c=>if (!c)=true then some (.rt false) else some (.nx (w64 (a+1))) else some (.bk a)) 0) fun d=>d.andThen (fun e=>some e) fun g =>
 some true
def zkL(c:Int):Bool :=
 ((decide ((48:Int)≤c))&&(decide (c≤57)))
def zjP(c:Int):Bool :=
 (((decide ((97:Int)≤c))&&(decide (c≤122)))||((decide ((65:Int)≤c))&&(decide (c≤90))))
def Qp(c:Int):Bool :=
 (((zjP c)||(zkL c))||(c==45))
noncomputable def mail_validDomain(s:ByteArray):Option Bool :=
 Option.bind (zii s (⟨#[46]⟩:ByteArray)) fun b =>
 Option.bind (zG (fun o _=>Option.bind (idx b (o:Int)) fun a=>Option.bind (if (Zw a (⟨#[]⟩:ByteArray))=true then (if true=true then (if true=true then (if true=true then (some true) else (Option.bind (zaM a (fun p=>some (Qp p))) fun q=>some (!q))) else (Option.bind (idxS a (w64 ((a.size:Int)-1))) fun r=>if ((r.toNat:Int)==45)=true then (some true) else (Option.bind (zaM a (fun t=>some (Qp t))) fun u=>some (!u)))) else (Option.bind (idxS a 0) fun v=>if ((v.toNat:Int)==45)=true then (if true=true then (some true) else (Option.bind (zaM a (fun w=>some (Qp w))) fun x=>some (!x))) else (Option.bind (idxS a (w64 ((a.size:Int)-1))) fun y=>if ((y.toNat:Int)==45)=true then (some true) else (Option.bind (zaM a (fun z=>some (Qp z))) fun A=>some (!A))))) else (if (decide ((30:Int)<(a.size:Int)))=true then (if true=true then (if true=true then (some true) else (Option.bind (zaM a (fun c=>some (Qp c))) fun d=>some (!d))) else (Option.bind (idxS a (w64 ((a.size:Int)-1))) fun e=>if ((e.toNat:Int)==45)=true then (some true) else (Option.bind (zaM a (fun f=>some (Qp f))) fun g=>some (!g)))) else (Option.bind (idxS a 0) fun h=>if ((h.toNat:Int)==45)=true then (if true=true then (some true) else (Option.bind (zaM a (fun i=>some (Qp i))) fun j=>some (!j))) else (Option.bind (idxS a (w64 ((a.size:Int)-1))) fun l=>if ((l.toNat:Int)==45)=true then (some true) else (Option.bind (zaM a (fun m=>some (Qp m))) fun n=>some (!n)))))) fun B=>if B=true then some (.rt false) else some (.nx ())) b.length 0 ()) fun D=>D.andThen (fun E=>some E) fun F =>
 some ((decide ((1:Int)<(b.length:Int)))&&(decide ((s.size:Int)≤60)))
def strings_Contains(s:ByteArray)(a:ByteArray):Option Bool :=
 match a.data.toList with
 | [c]=>some (decide (0≤Go.Lib.indexByte s.data.toList c))
 | _=>none
def zbj(s:ByteArray):Option Bool :=
 Option.bind (if (!(Zw s (⟨#[]⟩:ByteArray)))=true then (none) else (if false=true then (none) else (if false=true then (none) else (if false=true then (none) else (if false=true then (none) else (some false)))))) fun a =>
 some a
def zdD(b:qq):Option Bool :=
 Option.bind (Option.bind (zbj b.local_) fun a=>if a=true then (none) else (if false=true then (none) else (some false))) fun c =>
 some c
def Jd(a:qq):Option (ByteArray×Int) :=
 Option.bind (zdD a) fun b =>
 if (!b)=true then
  some ((⟨#[]⟩:ByteArray),1)
 else
  none
noncomputable def zbm(s:Jb):Option Int :=
 Option.bind (QO s.form) fun a =>
 if (a != 0)=true then
  some a
 else
  if (decide (s.key<0))=true then
   some 2
  else
   Option.bind (Jd s.box) fun b =>
   if (b.2 != 0)=true then
    some 1
   else
    none
noncomputable def Jw  : Option Bool :=
 Option.bind (zbm (⟨(⟨([]:(List zF))⟩:zr),0,(⟨ByteArray.empty,ByteArray.empty,ByteArray.empty⟩:qq),0,(⟨⟩:NilS),(⟨([]:(List Int)),(⟨⟩:NilS)⟩:zaH),(⟨⟩:NilS),(⟨⟩:NilS),(⟨⟩:NilS),(⟨⟩:NilS),(⟨(⟨⟩:NilS)⟩:JP)⟩:Jb)) fun a =>
 some (a != 0)
def QY(l:(List zF)):Option (List zF) :=
 if ((l.length:Int)==0)=true then
  some ([]:(List zF))
 else
  Option.bind (ji 5026338869833 (l.length:Int) (⟨ByteArray.empty,0, [],0⟩:zF)) fun a =>
  some (jL a l)
def QU(l:(List ByteArray)):Option (List ByteArray) :=
 if ((l.length:Int)==0)=true then
  some ([]:(List ByteArray))
 else
  Option.bind (ji 17592186044416 (l.length:Int) (ByteArray.empty:ByteArray)) fun a =>
  some (jL a l)
def Jx(f:zr):Option zr :=
 Option.bind (QY f.fields) fun a =>
 Option.bind (zG (fun b c=>Option.bind (idx c.fields (b:Int)) fun d=>Option.bind (QU d.options) fun e=>Option.bind (setI c.fields (b:Int) ({ (d:zF)with options:=e })) fun g=>some (.nx (⟨g⟩:zr))) a.length 0 (⟨a⟩:zr)) fun h=>h.andThen (fun j=>some j) fun i =>
 some i
noncomputable def zbE(f:zr):Option ((Option ticket_Desk)×Int) :=
 Option.bind (QO f) fun a =>
 if (a != 0)=true then
  some (none,a)
 else
  Option.bind (Jx f) fun b =>
  some (some (⟨b,([]:(List zk)),([]:(List za)),⟨([]:List (Int×Int))⟩,([]:(List Int)),⟨([]:List (Int×zl))⟩,0⟩:ticket_Desk),0)
def zcO(x:zk):Option (Bool×Bool×Bool×Bool) :=
 Option.bind (Option.bind (if (x.kind==1)=true then some (x.kind==1) else Option.bind (if (x.kind==5)=true then some (x.kind==5) else Option.bind (if (x.kind==6)=true then some (x.kind==6) else some (x.kind==7)) fun g=>some g) fun h=>some h) fun i=>Option.bind (if i=true then some (false,true,false,false) else Option.bind (if (x.kind==2)=true then some (x.kind==2) else some (x.kind==3)) fun j=>Option.bind (if j=true then some (false,false,true,false) else Option.bind (if (x.kind==4)=true then some (true,false,false,true) else Option.bind (if (x.kind==8)=true then some (false,true,true) else Option.bind (if (x.kind==10)=true then some (x.message==0,true) else some (false,false)) fun f=>some (f.1,false,f.2)) fun e=>some (e.1,e.2.1,e.2.2,false)) fun a=>some (a.1,a.2.1,a.2.2.1,a.2.2.2)) fun b=>some (b.1,b.2.1,b.2.2.1,b.2.2.2)) fun c=>some (c.1,c.2.1,c.2.2.1,c.2.2.2)) fun d =>
 some (d.1,d.2.1,d.2.2.1,d.2.2.2)
def Jr(x:zk):Option Int :=
 if (!(zt x.kind 1 10))=true then
  some 10
 else
  Option.bind (zcO x) fun a =>
  if (((((!a.1)&&(x.field != 0))||((!a.2.1)&&(x.to_ != 0)))||((!a.2.2.1)&&(x.message != 0)))||((!a.2.2.2)&&(!(x.value.kind==0&&(x.value.int==0&&(Zw x.value.text ByteArray.empty))))))=true then
   some 1
  else
   some 0
def Jn(b:ticket_Desk)(a:Int):Option Bool :=
 some (zt a 1 (b.tickets.length:Int))
def jA(a:ticket_Desk)(x:zk):Option Int :=
 if (!(zt x.message 1 1000))=true then
  some 2
 else
  if ((zp a.owners.l x.message).isSome)=true then
   some 6
  else
   if ((x.kind==3)&&(x.who==0))=true then
    some 12
   else
    some 0
def zaX(v:api_Value):Option Bool :=
 some (((v.int != 0)&&((v.kind==0)||(v.kind==3)))||((!(Zw v.text (⟨#[]⟩:ByteArray)))&&(v.kind != 3)))
noncomputable def JR(s:ByteArray):Option Int :=
 if (decide ((200:Int)<(s.size:Int)))=true then
  some 4
 else
  Option.bind (jO (fun a=>if (decide (a<(s.size:Int)))=true then Option.bind (idxS s a) fun b=>if (decide ((b.toNat:Int)<32))=true then some (.rt 9) else some (.nx (w64 (a+1))) else some (.bk a)) 0) fun c=>c.andThen (fun d=>some d) fun e =>
  some 0
noncomputable def Jy(x:zF)(v:api_Value):Option Int :=
 Option.bind (zaX v) fun a =>
 if a=true then
  some 1
 else
  if ((v.kind != 0)&&(v.kind != x.kind))=true then
   some 10
  else
   Option.bind (Option.bind (if (v.kind==1)=true then some (zt v.int 0 1) else Option.bind (if (v.kind==4)=true then some (zt v.int 0 (w64 ((x.options.length:Int)-1))) else Option.bind (if (v.kind==5)=true then some (zt v.int 0 3000000) else Option.bind (if (v.kind==6)=true then some (zt v.int 1 40) else Option.bind (if (v.kind==2)=true then some (zt v.int (-1000000000) 1000000000) else some true) fun b=>some b) fun c=>some c) fun d=>some d) fun e=>some e) fun f=>some f) fun g =>
   if (!g)=true then
    some 2
   else
    Option.bind (JR v.text) fun h =>
    some h
noncomputable def jC(c:ticket_Desk)(s:za)(x:zk):Option Int :=
 if (!(zt x.field 0 (w64 ((c.form.fields.length:Int)-1))))=true then
  some 7
 else
  Option.bind (idx c.form.fields x.field) fun a =>
  Option.bind (Jy a x.value) fun b =>
  if (b != 0)=true then
   some b
  else
   if (x.who==0)=true then
    some 12
   else
    if (s.status==6)=true then
     some 11
    else
     if (((x.value.kind==0)&&(a.needs != 0))&&(decide (a.needs≤s.status)))=true then
      some 1
     else
      some 0
def JQ(a:Int)(b:Int):Option Bool :=
 if (a==1)=true then
  some (zt b 2 5)
 else
  Option.bind (if (a==2)=true then some (a==2) else Option.bind (if (a==3)=true then some (a==3) else some (a==4)) fun c=>some c) fun d =>
  if d=true then
   some ((zt b 2 5)&&(b != a))
  else
   if (a==5)=true then
    some ((b==2)||(b==6))
   else
    some false
def jn(c:ticket_Desk)(s:za)(x:zk):Option Int :=
 if (!(zt x.to_ 1 6))=true then
  some 2
 else
  Option.bind (JQ s.status x.to_) fun d =>
  if (!d)=true then
   some 11
  else
   if ((x.who==0)&&((s.status != 5)||(x.to_ != 2)))=true then
    some 12
   else
    Option.bind (zG (fun a _=>Option.bind (idx c.form.fields (a:Int)) fun b=>Option.bind (if ((b.needs != 0)&&(decide (b.needs≤x.to_)))=true then (Option.bind (idx s.values (a:Int)) fun e=>some (e.kind==0)) else (some false)) fun f=>if f=true then some (.rt 1) else some (.nx ())) c.form.fields.length 0 ()) fun g=>g.andThen (fun h=>some h) fun i =>
    some 0
def JC(s:za)(x:zk):Option Int :=
 if (!(zt x.to_ 0 40))=true then
  some 2
 else
  if (x.who==0)=true then
   some 12
  else
   if (s.person==x.to_)=true then
    some 6
   else
    some 0
def QZ(b:ticket_Desk)(s:za)(x:zk):Option Int :=
 Option.bind (Jn b x.to_) fun d =>
 if (!d)=true then
  some 7
 else
  if (x.to_==x.ticket)=true then
   some 13
  else
   Option.bind (idx b.tickets (w64 (x.to_-1))) fun a =>
   if (a.into != 0)=true then
    some 11
   else
    if (x.who==0)=true then
     some 12
    else
     Option.bind (if (s.status==6)=true then (some true) else (some (a.status==6))) fun c =>
     if c=true then
      some 11
     else
      some 0
def QI(s:(List Int))(v:Int):Option Int :=
 Option.bind (zG (fun a _=>Option.bind (idx s (a:Int)) fun b=>if (v==b)=true then some (.rt (a:Int)) else some (.nx ())) s.length 0 ()) fun o3=>o3.andThen (fun c=>some c) fun d =>
 some (-1)
def qC(s:(List Int))(v:Int):Option Bool :=
 Option.bind (QI s v) fun a =>
 some (decide ((0:Int)≤a))
def jm(a:ticket_Desk)(s:za)(x:zk):Option Int :=
 if (decide ((400:Int)≤(a.tickets.length:Int)))=true then
  some 16
 else
  if (x.to_ != (w64 ((a.tickets.length:Int)+1)))=true then
   some 5
  else
   Option.bind (qC s.messages x.message) fun b =>
   if (!b)=true then
    some 7
   else
    Option.bind (idx s.messages 0) fun c =>
    if (c==x.message)=true then
     some 1
    else
     if (x.who==0)=true then
      some 12
     else
      if (s.status==6)=true then
       some 11
      else
       some 0
def jb(a:ticket_Desk)(x:zk):Option Int :=
 if (x.who==0)=true then
  some 12
 else
  if (!((zp a.undo.l x.ticket).isSome))=true then
   some 7
  else
   Option.bind (idx a.last (w64 ((((zp a.undo.l x.ticket).getD (⟨0,0,0,⟨0,0,0,0,0,0,0,0, [], [], [],0⟩,⟨0,0,0,0,0,0,0,0, [], [], [],0⟩⟩)).other)-1))) fun b =>
   if (b != (((zp a.undo.l x.ticket).getD (⟨0,0,0,⟨0,0,0,0,0,0,0,0, [], [], [],0⟩,⟨0,0,0,0,0,0,0,0, [], [], [],0⟩⟩)).event))=true then
    some 11
   else
    some 0
def jN(e:ticket_Desk)(s:za)(x:zk):Option Int :=
 if (x.who==0)=true then
  some 12
 else
  if ((x.message==0)&&(!(zt x.field 0 (w64 ((e.form.fields.length:Int)-1)))))=true then
   some 7
  else
   Option.bind (if (x.message != 0)=true then (Option.bind (qC s.messages x.message) fun a=>some (!a)) else (some false)) fun b =>
   Option.bind (if b=true then (Option.bind (qC s.notes x.message) fun c=>some (!c)) else (some false)) fun d =>
   if d=true then
    some 7
   else
    some 0
noncomputable def qo(a:ticket_Desk)(x:zk):Option Int :=
 if (decide ((6000:Int)≤(a.log.length:Int)))=true then
  some 16
 else
  Option.bind (Jr x) fun c =>
  if (c != 0)=true then
   some c
  else
   if ((!(zt x.at_ 0 3000000))||(!(zt x.who (-1) 40)))=true then
    some 2
   else
    Option.bind (if (decide ((0:Int)<(a.log.length:Int)))=true then (Option.bind (idx a.log (w64 ((a.log.length:Int)-1))) fun l=>some (decide (x.at_<l.at_))) else (some false)) fun m =>
    if m=true then
     some 5
    else
     if (x.kind==1)=true then
      if (decide ((400:Int)≤(a.tickets.length:Int)))=true then
       some 16
      else
       if (x.ticket != (w64 ((a.tickets.length:Int)+1)))=true then
        some 5
       else
        if (!(zt x.to_ 1 4))=true then
         some 2
        else
         some 0
     else
      Option.bind (Jn a x.ticket) fun n =>
      if (!n)=true then
       some 7
      else
       Option.bind (idx a.tickets (w64 (x.ticket-1))) fun b =>
       if (((b.into != 0)&&(x.kind != 10))&&(x.kind != 9))=true then
        some 11
       else
        Option.bind (if (x.kind==2)=true then some (x.kind==2) else some (x.kind==3)) fun o =>
        if o=true then
         Option.bind (jA a x) fun p =>
         some p
        else
         if (x.kind==4)=true then
          Option.bind (jC a b x) fun d =>
          some d
         else
          if (x.kind==5)=true then
           Option.bind (jn a b x) fun e =>
           some e
          else
           if (x.kind==6)=true then
            Option.bind (JC b x) fun f =>
            some f
           else
            if (x.kind==7)=true then
             Option.bind (QZ a b x) fun g =>
             some g
            else
             if (x.kind==8)=true then
              Option.bind (jm a b x) fun h =>
              some h
             else
              if (x.kind==9)=true then
               Option.bind (jb a x) fun i =>
               some i
              else
               Option.bind (jN a b x) fun j =>
               some j
def qY(a:ticket_Desk)(b:Int)(h:Int)(at_:Int):Option ticket_Desk :=
 Option.bind (idx a.tickets (w64 (b-1))) fun c =>
 Option.bind (setI a.tickets (w64 (b-1)) ({ (c:za)with events:=w64 (c.events+1) })) fun d =>
 Option.bind (idx d (w64 (b-1))) fun e =>
 Option.bind (setI d (w64 (b-1)) ({ (e:za)with changed:=at_ })) fun f =>
 Option.bind (idx a.last (w64 (b-1))) fun i =>
 Option.bind (setI a.last (w64 (b-1)) h) fun g =>
 some (⟨a.form,a.log,f,⟨a.owners.l⟩,g,⟨(ZA a.undo.l b)⟩,a.other⟩:ticket_Desk)
def jd(l:(List Int)):Option (List Int) :=
 if ((l.length:Int)==0)=true then
  some ([]:(List Int))
 else
  Option.bind (ji 35184372088832 (l.length:Int) (0:Int)) fun a =>
  some (jL a l)
noncomputable def ZG(m:ticket_Desk)(c:Int)(l:(List Int))(b:(List Int)):Option ((List Int)×ticket_Desk) :=
 Option.bind (jd l) fun d =>
 Option.bind (zE 17592186044416 d b) fun e =>
 Option.bind (zG (fun f a=>Option.bind (idx b (f:Int)) fun g=>some (.nx (⟨a.form,a.log,a.tickets,⟨(Qt a.owners.l g c)⟩,a.last,⟨a.undo.l⟩,a.other⟩:ticket_Desk))) b.length 0 m) fun h=>h.andThen (fun n=>some n) fun i =>
 Option.bind (zcX e) fun j =>
 some (j,i)
noncomputable def zae(e:ticket_Desk)(s:Int)(x:zk):Option ticket_Desk :=
 Option.bind (idx e.tickets s) fun d =>
 Option.bind (ZG e d.no d.messages ([x.message]:List Int)) fun a =>
 Option.bind (idx a.2.tickets s) fun f =>
 Option.bind (setI a.2.tickets s ({ (f:za)with messages:=a.1 })) fun c =>
 Option.bind (idx c s) fun b =>
 Option.bind (if (((x.who==0)&&((b.status==3)||(b.status==5)))||((decide ((0:Int)<x.who))&&(b.status==1)))=true then Option.bind (setI c s ({ (b:za)with status:=2 })) fun g=>some (⟨a.2.form,a.2.log,g,⟨a.2.owners.l⟩,a.2.last,⟨a.2.undo.l⟩,a.2.other⟩:ticket_Desk) else some (⟨a.2.form,a.2.log,c,⟨a.2.owners.l⟩,a.2.last,⟨a.2.undo.l⟩,a.2.other⟩:ticket_Desk)) fun h =>
 some h
def ja(l:(List api_Value)):Option (List api_Value) :=
 if ((l.length:Int)==0)=true then
  some ([]:(List api_Value))
 else
  Option.bind (ji 8796093022208 (l.length:Int) (⟨0,0,ByteArray.empty⟩:api_Value)) fun a =>
  some (jL a l)
def Qq(s:za):Option za :=
 Option.bind (ja s.values) fun a =>
 Option.bind (jd s.messages) fun b =>
 Option.bind (jd s.notes) fun c =>
 some (⟨s.no,s.opened,s.changed,s.status,s.priority,s.person,s.into,s.from_,a,b,c,s.events⟩:za)
def jB{α:Type}(n:Int):Option (List α):=if 0≤n∧n≤17592186044416 then some [] else none
def jk(a:(List (List Int))):Option (List Int) :=
 Option.bind (zG (fun m c=>Option.bind (idx a (m:Int)) fun d=>if (decide ((w64 (c+(d.length:Int)))<0))=true then none else some (.nx (w64 (c+(d.length:Int))))) a.length 0 0) fun o3=>o3.andThen (fun b=>some b) fun n =>
 Option.bind (jB  n) fun e =>
 Option.bind (zG (fun f g=>Option.bind (idx a (f:Int)) fun h=>Option.bind (zE 17592186044416 g h) fun i=>some (.nx i)) a.length 0 e) fun j=>j.andThen (fun b=>some b) fun l =>
 some l
def qE(f:ticket_Desk)(s:Int):Option ticket_Desk :=
 Option.bind (idx f.tickets s) fun d =>
 Option.bind (jk ([d.messages,d.notes]:List (List Int))) fun e =>
 Option.bind (zG (fun i b=>Option.bind (idx e (i:Int)) fun j=>some (.nx (⟨b.form,b.log,b.tickets,⟨(ZA b.owners.l j)⟩,b.last,⟨b.undo.l⟩,b.other⟩:ticket_Desk))) e.length 0 f) fun l=>l.andThen (fun n=>some n) fun a =>
 Option.bind (idx a.tickets s) fun m =>
 Option.bind (setI a.tickets s ({ (m:za)with messages:=([]:(List Int)) })) fun c =>
 Option.bind (idx c s) fun g =>
 Option.bind (setI c s ({ (g:za)with notes:=([]:(List Int)) })) fun h =>
 some (⟨a.form,a.log,h,⟨a.owners.l⟩,a.last,⟨a.undo.l⟩,a.other⟩:ticket_Desk)
noncomputable def jo(j:ticket_Desk)(s:Int)(x:zk)(z:Int):Option ticket_Desk :=
 Option.bind (idx j.tickets (w64 (x.to_-1))) fun U =>
 Option.bind (idx j.tickets s) fun W =>
 Option.bind (Qq W) fun M =>
 Option.bind (Qq U) fun N =>
 Option.bind (qY j x.to_ z x.at_) fun q =>
 Option.bind (idx q.tickets s) fun h =>
 Option.bind (qE q s) fun a =>
 Option.bind (if (x.kind==7)=true then Option.bind (idx a.tickets s) fun O=>Option.bind (setI a.tickets s ({ (O:za)with into:=x.to_ })) fun r=>Option.bind (idx r s) fun P=>Option.bind (setI r s ({ (P:za)with status:=6 })) fun t=>Option.bind (idx t (w64 (x.to_-1))) fun u=>Option.bind (ZG (⟨a.form,a.log,t,⟨a.owners.l⟩,a.last,⟨a.undo.l⟩,a.other⟩:ticket_Desk) u.no u.messages h.messages) fun e=>Option.bind (idx e.2.tickets (w64 (x.to_-1))) fun Q=>Option.bind (setI e.2.tickets (w64 (x.to_-1)) ({ (Q:za)with messages:=e.1 })) fun v=>Option.bind (idx v (w64 (x.to_-1))) fun w=>Option.bind (ZG (⟨e.2.form,e.2.log,v,⟨e.2.owners.l⟩,e.2.last,⟨e.2.undo.l⟩,e.2.other⟩:ticket_Desk) w.no w.notes h.notes) fun f=>Option.bind (idx f.2.tickets (w64 (x.to_-1))) fun R=>Option.bind (setI f.2.tickets (w64 (x.to_-1)) ({ (R:za)with notes:=f.1 })) fun S=>some (⟨f.2.form,f.2.log,S,⟨f.2.owners.l⟩,f.2.last,⟨f.2.undo.l⟩,f.2.other⟩:ticket_Desk) else Option.bind (QI h.messages x.message) fun y=>Option.bind (idx a.tickets s) fun T=>Option.bind (jE h.messages none (some y)) fun A=>Option.bind (ZG a T.no ([]:(List Int)) A) fun b=>Option.bind (idx b.2.tickets s) fun B=>Option.bind (setI b.2.tickets s ({ (B:za)with messages:=b.1 })) fun l=>Option.bind (idx l s) fun D=>Option.bind (ZG (⟨b.2.form,b.2.log,l,⟨b.2.owners.l⟩,b.2.last,⟨b.2.undo.l⟩,b.2.other⟩:ticket_Desk) D.no ([]:(List Int)) h.notes) fun c=>Option.bind (idx c.2.tickets s) fun E=>Option.bind (setI c.2.tickets s ({ (E:za)with notes:=c.1 })) fun m=>Option.bind (idx m (w64 (x.to_-1))) fun F=>Option.bind (jE h.messages (some y) none) fun G=>Option.bind (ZG (⟨c.2.form,c.2.log,m,⟨c.2.owners.l⟩,c.2.last,⟨c.2.undo.l⟩,c.2.other⟩:ticket_Desk) F.no ([]:(List Int)) G) fun d=>Option.bind (idx d.2.tickets (w64 (x.to_-1))) fun H=>Option.bind (setI d.2.tickets (w64 (x.to_-1)) ({ (H:za)with messages:=d.1 })) fun i=>Option.bind (idx i s) fun n=>Option.bind (idx i (w64 (x.to_-1))) fun I=>Option.bind (setI i (w64 (x.to_-1)) ({ (I:za)with from_:=n.no })) fun o=>Option.bind (idx o (w64 (x.to_-1))) fun J=>Option.bind (setI o (w64 (x.to_-1)) ({ (J:za)with priority:=n.priority })) fun p=>Option.bind (idx p (w64 (x.to_-1))) fun K=>Option.bind (setI p (w64 (x.to_-1)) ({ (K:za)with status:=2 })) fun L=>some (⟨d.2.form,d.2.log,L,⟨d.2.owners.l⟩,d.2.last,⟨d.2.undo.l⟩,d.2.other⟩:ticket_Desk)) fun g =>
 some (⟨g.form,g.log,g.tickets,⟨g.owners.l⟩,g.last,⟨(Qt g.undo.l x.ticket (⟨x.kind,x.to_,z,M,N⟩:zl))⟩,g.other⟩:ticket_Desk)
noncomputable def Jf(p:ticket_Desk)(s:Int)(a:zl)(I:Int)(at_:Int):Option ticket_Desk :=
 Option.bind (idx p.tickets (w64 (a.other-1))) fun J =>
 Option.bind (qY p a.other I at_) fun f =>
 Option.bind (qE (⟨f.form,f.log,f.tickets,⟨f.owners.l⟩,f.last,⟨f.undo.l⟩,a.other⟩:ticket_Desk) s) fun G =>
 Option.bind (qE G (w64 (a.other-1))) fun o =>
 Option.bind (idx o.tickets s) fun H =>
 Option.bind (ZG o H.no ([]:(List Int)) a.before.messages) fun e =>
 Option.bind (idx e.2.tickets s) fun q =>
 Option.bind (setI e.2.tickets s ({ (q:za)with messages:=e.1 })) fun h =>
 Option.bind (idx h s) fun r =>
 Option.bind (ZG (⟨e.2.form,e.2.log,h,⟨e.2.owners.l⟩,e.2.last,⟨e.2.undo.l⟩,e.2.other⟩:ticket_Desk) r.no ([]:(List Int)) a.before.notes) fun b =>
 Option.bind (idx b.2.tickets s) fun t =>
 Option.bind (setI b.2.tickets s ({ (t:za)with notes:=b.1 })) fun g =>
 if (a.kind==8)=true then
  Option.bind (idx g (w64 (a.other-1))) fun u =>
  Option.bind (setI g (w64 (a.other-1)) ({ (u:za)with status:=6 })) fun v =>
  some (⟨b.2.form,b.2.log,v,⟨b.2.owners.l⟩,b.2.last,⟨b.2.undo.l⟩,b.2.other⟩:ticket_Desk)
 else
  Option.bind (idx g s) fun w =>
  Option.bind (setI g s ({ (w:za)with status:=a.before.status })) fun i =>
  Option.bind (idx i s) fun x =>
  Option.bind (setI i s ({ (x:za)with into:=a.before.into })) fun j =>
  Option.bind (idx j (w64 (a.other-1))) fun y =>
  Option.bind (ZG (⟨b.2.form,b.2.log,j,⟨b.2.owners.l⟩,b.2.last,⟨b.2.undo.l⟩,b.2.other⟩:ticket_Desk) y.no ([]:(List Int)) a.to_.messages) fun c =>
  Option.bind (idx c.2.tickets (w64 (a.other-1))) fun z =>
  Option.bind (setI c.2.tickets (w64 (a.other-1)) ({ (z:za)with messages:=c.1 })) fun l =>
  Option.bind (idx l (w64 (a.other-1))) fun A =>
  Option.bind (ZG (⟨c.2.form,c.2.log,l,⟨c.2.owners.l⟩,c.2.last,⟨c.2.undo.l⟩,c.2.other⟩:ticket_Desk) A.no ([]:(List Int)) a.to_.notes) fun d =>
  Option.bind (idx d.2.tickets (w64 (a.other-1))) fun B =>
  Option.bind (setI d.2.tickets (w64 (a.other-1)) ({ (B:za)with notes:=d.1 })) fun m =>
  Option.bind (idx m (w64 (a.other-1))) fun D =>
  Option.bind (setI m (w64 (a.other-1)) ({ (D:za)with status:=a.to_.status })) fun n =>
  Option.bind (idx n (w64 (a.other-1))) fun E =>
  Option.bind (setI n (w64 (a.other-1)) ({ (E:za)with into:=a.to_.into })) fun F =>
  some (⟨d.2.form,d.2.log,F,⟨d.2.owners.l⟩,d.2.last,⟨d.2.undo.l⟩,d.2.other⟩:ticket_Desk)
noncomputable def zU(b:ticket_Desk)(x:zk):Option (Int×ticket_Desk) :=
 Option.bind (qo b x) fun f =>
 if (f != 0)=true then
  some (f,b)
 else
  Option.bind (zE 1599289640401 b.log ([x]:List zk)) fun g =>
  Option.bind (if ((x.kind==1)||(x.kind==8))=true then Option.bind (ji 8796093022208 (b.form.fields.length:Int) (⟨0,0,ByteArray.empty⟩:api_Value)) fun L=>Option.bind (zE 977343669134 b.tickets ([(⟨w64 ((b.tickets.length:Int)+1),x.at_,0,0,0,0,0,0,L,([]:(List Int)),([]:(List Int)),0⟩:za)]:List za)) fun M=>Option.bind (zE 17592186044416 b.last ([(b.log.length:Int)]:List Int)) fun i=>some (⟨b.form,g,M,⟨b.owners.l⟩,i,⟨b.undo.l⟩,b.other⟩:ticket_Desk) else some (⟨b.form,g,b.tickets,⟨b.owners.l⟩,b.last,⟨b.undo.l⟩,b.other⟩:ticket_Desk)) fun h =>
  Option.bind (qY h x.ticket (b.log.length:Int) x.at_) fun a =>
  Option.bind (idx a.tickets (w64 (x.ticket-1))) fun c =>
  Option.bind (Option.bind (if (x.kind==1)=true then Option.bind (setI a.tickets (w64 (x.ticket-1)) ({ (c:za)with status:=1 })) fun e=>Option.bind (idx e (w64 (x.ticket-1))) fun j=>Option.bind (setI e (w64 (x.ticket-1)) ({ (j:za)with priority:=x.to_ })) fun l=>some (⟨a.form,a.log,l,⟨a.owners.l⟩,a.last,⟨a.undo.l⟩,a.other⟩:ticket_Desk) else Option.bind (if (x.kind==2)=true then Option.bind (zae a (w64 (x.ticket-1)) x) fun m=>some m else Option.bind (if (x.kind==3)=true then Option.bind (ZG a c.no c.notes ([x.message]:List Int)) fun d=>Option.bind (idx d.2.tickets (w64 (x.ticket-1))) fun n=>Option.bind (setI d.2.tickets (w64 (x.ticket-1)) ({ (n:za)with notes:=d.1 })) fun o=>some (⟨d.2.form,d.2.log,o,⟨d.2.owners.l⟩,d.2.last,⟨d.2.undo.l⟩,d.2.other⟩:ticket_Desk) else Option.bind (if (x.kind==4)=true then Option.bind (idx c.values x.field) fun N=>Option.bind (setI c.values x.field x.value) fun p=>Option.bind (setI a.tickets (w64 (x.ticket-1)) ({ (c:za)with values:=p })) fun q=>some (⟨a.form,a.log,q,⟨a.owners.l⟩,a.last,⟨a.undo.l⟩,a.other⟩:ticket_Desk) else Option.bind (if (x.kind==5)=true then Option.bind (setI a.tickets (w64 (x.ticket-1)) ({ (c:za)with status:=x.to_ })) fun r=>some (⟨a.form,a.log,r,⟨a.owners.l⟩,a.last,⟨a.undo.l⟩,a.other⟩:ticket_Desk) else Option.bind (if (x.kind==6)=true then Option.bind (setI a.tickets (w64 (x.ticket-1)) ({ (c:za)with person:=x.to_ })) fun s=>some (⟨a.form,a.log,s,⟨a.owners.l⟩,a.last,⟨a.undo.l⟩,a.other⟩:ticket_Desk) else Option.bind (if (x.kind==7)=true then some (x.kind==7) else some (x.kind==8)) fun t=>Option.bind (if t=true then Option.bind (jo a (w64 (x.ticket-1)) x (b.log.length:Int)) fun u=>some u else Option.bind (if (x.kind==9)=true then Option.bind (Jf a (w64 (x.ticket-1)) ((zp h.undo.l x.ticket).getD (⟨0,0,0,⟨0,0,0,0,0,0,0,0, [], [], [],0⟩,⟨0,0,0,0,0,0,0,0, [], [], [],0⟩⟩)) (b.log.length:Int) x.at_) fun v=>some v else Option.bind (if (x.kind==10)=true then Option.bind (if (x.message==0)=true then Option.bind (idx c.values x.field) fun O=>Option.bind (setI c.values x.field (⟨0,0,ByteArray.empty⟩:api_Value)) fun w=>Option.bind (setI a.tickets (w64 (x.ticket-1)) ({ (c:za)with values:=w })) fun y=>some (⟨a.form,a.log,y,⟨a.owners.l⟩,a.last,⟨a.undo.l⟩,a.other⟩:ticket_Desk) else some a) fun z=>some z else some a) fun A=>some A) fun B=>some B) fun D=>some D) fun E=>some E) fun F=>some F) fun G=>some G) fun H=>some H) fun I=>some I) fun J=>some J) fun K =>
  some (0,K)
noncomputable def zdE(f:zr)(l:(List zk)):Option ((Option ticket_Desk)×Int×Int) :=
 Option.bind (zbE f) fun a =>
 match a.1 with
 | none =>
  if (a.2 != 0)=true then
   some (none,0,a.2)
  else
   none
 | some R20 =>
  if (a.2 != 0)=true then
   some (none,0,a.2)
  else
   Option.bind (zG (fun d e=>Option.bind (α:=Lp _ _) (Option.bind (idx l (d:Int)) fun g=>Option.bind (zU e g) fun b=>if (b.1 != 0)=true then some (.rt (none,(d:Int),b.1)) else Option.bind (some ()) fun n=>some (.fin b.2)) fun h=>h.andThen (fun c=>some (.rt c)) fun i=>some (.nx i)) l.length 0 R20) fun j=>j.andThen (fun c=>some c) fun m =>
   some (some m,0,0)
def Jh(a:ticket_Desk):Option (List za) :=
 Option.bind (zG (fun f b=>Option.bind (idx a.tickets (f:Int)) fun c=>Option.bind (Qq c) fun d=>Option.bind (zE 977343669134 b ([d]:List za)) fun e=>some (.nx e)) a.tickets.length 0 ([]:(List za))) fun g=>g.andThen (fun i=>some i) fun h =>
 some h
noncomputable def Ja(f:zr)(l:(List zk)):Option ((List za)×Int×Int) :=
 Option.bind (zdE f l ) fun a =>
 match a.1 with
 | none =>
  if (a.2.2 != 0)=true then
   some (([]:(List za)),a.2.1,a.2.2)
  else
   none
 | some R20 =>
  if (a.2.2 != 0)=true then
   some (([]:(List za)),a.2.1,a.2.2)
  else
   Option.bind (Jh R20) fun b =>
   some (b,0,0)
def zX(n:Int)(b:Int)(a:Int):Bool :=
 ((decide (b≤n))&&(decide (n≤a)))
def qj(s:(List za))(f:za→Option Bool):Option Int :=
 Option.bind (zG (fun a _=>Option.bind (idx s (a:Int)) fun b=>Option.bind (f b) fun c=>if c=true then some (.rt (a:Int)) else some (.nx ())) s.length 0 ()) fun o3=>o3.andThen (fun d=>some d) fun e =>
 some (-1)
def zdd{α:Type}(l:List α)(lo:Int):Option (List α):=if 0≤lo∧lo<(l.length:Int) then some (l.take lo.toNat) else none
noncomputable def Zt(s:(List za))(c:za→Option Bool):Option (List za) :=
 Option.bind (qj s c) fun b =>
 if (b==(-1))=true then
  some s
 else
  Option.bind (jO (fun a=>if (decide (a.2.2<(a.1.length:Int)))=true then Option.bind (Option.bind (idx a.1 a.2.2) fun d=>Option.bind (c d) fun j=>Option.bind (if (!j)=true then Option.bind (idx a.1 a.2.1) fun n=>Option.bind (setI a.1 a.2.1 d) fun h=>some (h,w64 (a.2.1+1)) else some (a.1,a.2.1)) fun e=>some (e.1,e.2)) fun f=>some (.nx (f.1,f.2,w64 (a.2.2+1))) else some (.bk (a.1,a.2.1,a.2.2))) (s,b,w64 (b+1))) fun l=>l.andThen (fun m=>some m) fun g =>
  Option.bind (zdd g.1 g.2.1) fun i =>
  some i
def zbp(x:za):Option Bool :=
 some (x.into != 0)
def qB(x:za)(a:Int):Option api_Value :=
 if (a==100)=true then
  some (⟨2,x.status,ByteArray.empty⟩:api_Value)
 else
  if (a==101)=true then
   some (⟨2,x.priority,ByteArray.empty⟩:api_Value)
  else
   if (a != 102)=true then
    Option.bind (idx x.values a) fun b =>
    some b
   else
    if (x.person==0)=true then
     some (⟨0,0,ByteArray.empty⟩:api_Value)
    else
     some (⟨6,x.person,ByteArray.empty⟩:api_Value)
def jJ(x:Int):Bool :=
 x != x
def Zd(x:Int)(y:Int):Int :=
 if (jJ x)=true then
  if (jJ y)=true then
   0
  else
   (-1)
 else
  if (jJ y)=true then
   1
  else
   if (decide (x<y))=true then
    (-1)
   else
    if (decide (y<x))=true then
     1
    else
     0
def strings_Compare(a:ByteArray)(b:ByteArray):Option Int:=some (Go.Lib.compareBytes a.data.toList b.data.toList)
def zdz(vals:(List Int)):Option Int :=
 Option.bind (zG (fun b _=>Option.bind (idx vals (b:Int)) fun a=>if (a != 0)=true then some (.rt a) else some (.nx ())) vals.length 0 ()) fun o3=>o3.andThen (fun c=>some c) fun d =>
 some 0
def ZO(a:api_Value)(b:api_Value):Option Int :=
 Option.bind (strings_Compare a.text b.text) fun c =>
 Option.bind (zdz ([(Zd a.kind b.kind),(Zd a.int b.int),c]:List Int)) fun d =>
 some d
noncomputable def qm(s:(List api_Value)):Option (List api_Value) :=
 if (decide ((s.length:Int)<2))=true then
  some s
 else
  Option.bind (jO (fun a=>if (decide (a.1<(a.2.length:Int)))=true then Option.bind (idx a.2 a.1) fun d=>Option.bind (idx a.2 (w64 (a.1-1))) fun e=>if (d.kind==e.kind&&(d.int==e.int&&(Zw d.text e.text)))=true then Option.bind (zhk a.2 a.1) fun r=>Option.bind (jO (fun b=>if (decide (b.2.1<((a.2.length:Int)-a.1)))=true then Option.bind (Option.bind (idxT b.2.2 a.1 b.2.1) fun c=>Option.bind (idxT b.2.2 a.1 (w64 (b.2.1-1))) fun f=>Option.bind (if (!(c.kind==f.kind&&(c.int==f.int&&(Zw c.text f.text))))=true then Option.bind (idx b.2.2 b.1) fun q=>Option.bind (setI b.2.2 b.1 c) fun l=>some (w64 (b.1+1),l) else some (b.1,b.2.2)) fun h=>some (h.1,h.2)) fun i=>some (.nx (i.1,w64 (b.2.1+1),i.2)) else some (.bk (b.1,b.2.1,b.2.2))) (a.1,1,a.2)) fun n=>n.andThen (fun g=>some (.rt g)) fun j=>Option.bind (zdd j.2.2 j.1) fun m=>some (.rt m) else some (.nx (w64 (a.1+1),a.2)) else some (.bk (a.1,a.2))) (1,s)) fun o=>o.andThen (fun g=>some g) fun p =>
  some p.2
noncomputable def jI(l:(List za))(a:Int):Option (List api_Value) :=
 Option.bind (zG (fun j b=>Option.bind (idx l (j:Int)) fun c=>Option.bind (qB c a) fun d=>Option.bind (zE 4398046511104 b ([d]:List api_Value)) fun e=>some (.nx e)) l.length 0 ([]:(List api_Value))) fun o3=>o3.andThen (fun n=>some n) fun m =>
 Option.bind (zbx (fun f g=>ZO f g) m) fun h =>
 Option.bind (qm h) fun i =>
 some i
noncomputable def zT(x:(List api_Value))(d:api_Value)(e:api_Value→api_Value→Option Int):Option (Int×Bool) :=
 Option.bind (jO (fun a=>if (decide (a.1<a.2))=true then Option.bind (Option.bind (shr .u64 (IntKind.wrap .u64 (w64 (a.1+a.2))) 1) fun b=>Option.bind (idx x (IntKind.wrap .i64 b)) fun h=>Option.bind (e h d) fun i=>Option.bind (if (decide (i<0))=true then some (w64 ((IntKind.wrap .i64 b)+1),a.2) else some (a.1,IntKind.wrap .i64 b)) fun f=>some (f.1,f.2)) fun g=>some (.nx (g.1,g.2)) else some (.bk (a.1,a.2))) (0,(x.length:Int))) fun o9=>o9.andThen (fun n=>some n) fun c =>
 Option.bind (if (decide (c.1<(x.length:Int)))=true then (Option.bind (idx x c.1) fun j=>Option.bind (e j d) fun l=>some (l==0)) else (some false)) fun m =>
 some (c.1,m)
noncomputable def JE(f:zr)(l:(List zk))(row:Int)(c:Int):Option (Zm×Int) :=
 Option.bind (Ja f l) fun g =>
 if (g.2.2 != 0)=true then
  some ((⟨([]:(List api_Value)),([]:(List api_Value)),([]:(List (List Int)))⟩:Zm),g.2.2)
 else
  Option.bind (zG (fun H I=>Option.bind (idx ([row,c]:List Int) (H:Int)) fun o=>if ((!(zX o 0 (w64 ((f.fields.length:Int)-1))))&&(!(zX o 100 102)))=true then some (.rt ((⟨([]:(List api_Value)),([]:(List api_Value)),([]:(List (List Int)))⟩:Zm),3)) else some (.nx I)) (([row,c]:List Int).length) 0 (⟨([]:(List api_Value)),([]:(List api_Value)),([]:(List (List Int)))⟩:Zm)) fun J=>J.andThen (fun b=>some b) fun M =>
  Option.bind (Zt g.1 (fun K=>zbp K)) fun e =>
  Option.bind (jI e row) fun h =>
  Option.bind (jI e c) fun p =>
  Option.bind (zG (fun L d=>Option.bind (ji 35184372088832 (d.columns.length:Int) (0:Int)) fun q=>Option.bind (zE 5864062014805 d.counts ([q]:List (List Int))) fun r=>some (.nx (⟨d.rows,d.columns,r⟩:Zm))) h.length 0 (⟨h,p,([]:(List (List Int)))⟩:Zm)) fun s=>s.andThen (fun b=>some b) fun t =>
  Option.bind (zG (fun u a=>Option.bind (idx e (u:Int)) fun i=>Option.bind (qB i row) fun v=>Option.bind (zT a.rows v (fun w x=>ZO w x)) fun j=>Option.bind (qB i c) fun y=>Option.bind (zT a.columns y (fun z A=>ZO z A)) fun m=>Option.bind (idx a.counts j.1) fun n=>Option.bind (idx n m.1) fun B=>Option.bind (setI n m.1 (w64 (B+1))) fun D=>Option.bind (setI a.counts j.1 D) fun E=>some (.nx (⟨a.rows,a.columns,E⟩:Zm))) e.length 0 t) fun F=>F.andThen (fun b=>some b) fun G =>
  some (G,0)
noncomputable def jY(o:ticket_Desk)(n:Int)(B:(List zk))(D:(List Int))(E:(List zH)):Option ((List Int)×(List zH)) :=
 Option.bind (idx B n) fun a =>
 Option.bind (Option.bind (if (a.kind==7)=true then some (a.kind==7) else some (a.kind==8)) fun w=>Option.bind (if w=true then Option.bind (zE 17592186044416 ([a.ticket]:List Int) ([a.to_]:List Int)) fun x=>some x else Option.bind (if (a.kind==9)=true then Option.bind (zE 17592186044416 ([a.ticket]:List Int) ([o.other]:List Int)) fun p=>some p else some ([a.ticket]:List Int)) fun y=>some y) fun z=>some z) fun A =>
 Option.bind (zcX A) fun h =>
 Option.bind (zG (fun q c=>Option.bind (Option.bind (idx h (q:Int)) fun b=>Option.bind (jO (R:=Empty) (fun d=>if (decide ((d.length:Int)<b))=true then Option.bind (zE 17592186044416 d ([0]:List Int)) fun r=>some (.nx r) else some (.bk d)) c.1) fun s=>s.andThen (fun g=>g.elim) fun e=>Option.bind (idx o.tickets (w64 (b-1))) fun f=>Option.bind (idx e (w64 (b-1))) fun i=>Option.bind (if (f.status != i)=true then Option.bind (zE 4398046511104 c.2 ([(⟨n,b,i,f.status⟩:zH)]:List zH)) fun t=>Option.bind (setI e (w64 (b-1)) f.status) fun u=>some (u,t) else some (e,c.2)) fun j=>some (j.1,j.2)) fun l=>some (.nx (l.1,l.2))) h.length 0 (D,E)) fun v=>v.andThen (fun g=>some g) fun m =>
 some (m.1,m.2)
noncomputable def jy(f:zr)(l:(List zk))(q:(List zk))(h:(List Int))(c2:(List zH)):Option ((Option ticket_Desk)×Int×Int×(List Int)×(List zH)) :=
 Option.bind (zbE f) fun a =>
 match a.1 with
 | none =>
  if (a.2 != 0)=true then
   some (none,0,a.2,h,c2)
  else
   none
 | some R24 =>
  if (a.2 != 0)=true then
   some (none,0,a.2,h,c2)
  else
   Option.bind (zG (fun d b=>Option.bind (α:=Lp _ _) (Option.bind (idx l (d:Int)) fun n=>Option.bind (zU b.1 n) fun c=>if (c.1 != 0)=true then some (.rt (none,(d:Int),c.1,b.2.1,b.2.2)) else Option.bind (Option.bind (jY c.2 (d:Int) q b.2.1 b.2.2) fun j=>some (j.1,j.2)) fun m=>some (.fin (c.2,m.1,m.2))) fun o=>o.andThen (fun i=>some (.rt i)) fun e=>some (.nx (e.1,e.2.1,e.2.2))) l.length 0 (R24,h,c2)) fun p=>p.andThen (fun i=>some i) fun g =>
   some (some g.1,0,0,g.2.1,g.2.2)
noncomputable def zaK(f:zr)(l:(List zk)):Option ((List zH)×Int) :=
 Option.bind (jy f l l ([]:(List Int)) ([]:(List zH))) fun a =>
 match a.1 with
 | none =>
  if (a.2.2.1 != 0)=true then
   some (([]:(List zH)),a.2.2.1)
  else
   some (a.2.2.2.2,0)
 | some R42 =>
  if (a.2.2.1 != 0)=true then
   some (([]:(List zH)),a.2.2.1)
  else
   some (a.2.2.2.2,0)
def qG(n:Int)(b:Int)(a:Int):Bool :=
 ((decide (b≤n))&&(decide (n≤a)))
def QS(z:zP):Option Int :=
 if (!(qG z.offset (-1440) 1440))=true then
  some 2
 else
  if (decide ((60:Int)<(z.changes.length:Int)))=true then
   some 4
  else
   Option.bind (zG (fun c b=>Option.bind (idx z.changes (c:Int)) fun a=>if ((!(qG a.at_ 1 3000000))||(!(qG a.offset (-1440) 1440)))=true then some (.rt 2) else if (decide (a.at_≤b.1))=true then some (.rt 5) else if (a.offset==b.2)=true then some (.rt 1) else some (.nx (a.at_,a.offset))) z.changes.length 0 (0,z.offset)) fun o24=>o24.andThen (fun d=>some d) fun e =>
   some 0
def jq(z:zP)(b:Int)(c:Int):Option Int :=
 Option.bind (QS z) fun a =>
 if (a != 0)=true then
  some a
 else
  if ((!(zX b 0 2084))||(!(zX c 1 400)))=true then
   some 2
  else
   some 0
def QH(m:Int):Int :=
 if (!(qG m 0 3000000))=true then
  2
 else
  0
def JO(vals:(List Int)):Option Int :=
 Option.bind (zG (fun b _=>Option.bind (idx vals (b:Int)) fun a=>if (a != 0)=true then some (.rt a) else some (.nx ())) vals.length 0 ()) fun o3=>o3.andThen (fun c=>some c) fun d =>
 some 0
def Jz(z:zP)(m:Int):Option Int :=
 Option.bind (zG (fun b c=>Option.bind (Option.bind (idx z.changes (b:Int)) fun a=>Option.bind (if (decide (a.at_≤m))=true then some a.offset else some c) fun d=>some d) fun e=>some (.nx e)) z.changes.length 0 z.offset) fun f=>f.andThen (fun h=>some h) fun g =>
 some g
def zdb(a:Int)(b:Int):Option Int :=
 Option.bind (quo a b) fun c =>
 Option.bind (rem a b) fun d =>
 Option.bind (if (decide (d<0))=true then some (w64 (c-1)) else some c) fun e =>
 some e
def jh(z:zP)(m:Int):Option (Int×Int×Int) :=
 Option.bind (QS z) fun d =>
 Option.bind (JO ([d,(QH m)]:List Int)) fun a =>
 if (a != 0)=true then
  some (0,0,a)
 else
  Option.bind (Jz z m) fun b =>
  Option.bind (zdb (w64 (m+b)) 1440) fun c =>
  some (c,w64 ((w64 (m+b))-(w64 (c*1440))),0)
def zaw(at_:Int)(g:zP)(a:Int)(h:Int)(b:(List desk_Day)):Option (List desk_Day) :=
 Option.bind (jh g at_) fun c =>
 Option.bind (if (zX c.1 a (w64 ((w64 (a+h))-1)))=true then Option.bind (idx b (w64 (c.1-a))) fun d=>Option.bind (setI b (w64 (c.1-a)) ({ (d:desk_Day)with opened:=w64 (d.opened+1) })) fun e=>some e else some b) fun f =>
 some f
def qZ(at_:Int)(g:zP)(a:Int)(h:Int)(b:(List desk_Day)):Option (List desk_Day) :=
 Option.bind (jh g at_) fun c =>
 Option.bind (if (zX c.1 a (w64 ((w64 (a+h))-1)))=true then Option.bind (idx b (w64 (c.1-a))) fun d=>Option.bind (setI b (w64 (c.1-a)) ({ (d:desk_Day)with said:=w64 (d.said+1) })) fun e=>some e else some b) fun f =>
 some f
def Qe(at_:Int)(g:zP)(a:Int)(h:Int)(b:(List desk_Day)):Option (List desk_Day) :=
 Option.bind (jh g at_) fun c =>
 Option.bind (if (zX c.1 a (w64 ((w64 (a+h))-1)))=true then Option.bind (idx b (w64 (c.1-a))) fun d=>Option.bind (setI b (w64 (c.1-a)) ({ (d:desk_Day)with replied:=w64 (d.replied+1) })) fun e=>some e else some b) fun f =>
 some f
def Qj(at_:Int)(g:zP)(a:Int)(h:Int)(b:(List desk_Day)):Option (List desk_Day) :=
 Option.bind (jh g at_) fun c =>
 Option.bind (if (zX c.1 a (w64 ((w64 (a+h))-1)))=true then Option.bind (idx b (w64 (c.1-a))) fun d=>Option.bind (setI b (w64 (c.1-a)) ({ (d:desk_Day)with solved:=w64 (d.solved+1) })) fun e=>some e else some b) fun f =>
 some f
def Qd(at_:Int)(g:zP)(a:Int)(h:Int)(b:(List desk_Day)):Option (List desk_Day) :=
 Option.bind (jh g at_) fun c =>
 Option.bind (if (zX c.1 a (w64 ((w64 (a+h))-1)))=true then Option.bind (idx b (w64 (c.1-a))) fun d=>Option.bind (setI b (w64 (c.1-a)) ({ (d:desk_Day)with closed:=w64 (d.closed+1) })) fun e=>some e else some b) fun f =>
 some f
noncomputable def Qr(f:zr)(l:(List zk))(z:zP)(b:Int)(c:Int):Option ((List desk_Day)×Int) :=
 Option.bind (zaK f l) fun h =>
 if (h.2 != 0)=true then
  some (([]:(List desk_Day)),h.2)
 else
  Option.bind (jq z b c) fun m =>
  if (m != 0)=true then
   some (([]:(List desk_Day)),m)
  else
   Option.bind (ji 5864062014805 c (⟨0,0,0,0,0,0⟩:desk_Day)) fun n =>
   Option.bind (zG (fun j o=>Option.bind (idx o (j:Int)) fun O=>Option.bind (setI o (j:Int) ({ (O:desk_Day)with day:=w64 (b+(j:Int)) })) fun p=>some (.nx p)) n.length 0 n) fun P=>P.andThen (fun d=>some d) fun Q =>
   Option.bind (zG (fun q e=>Option.bind (Option.bind (idx l (q:Int)) fun a=>Option.bind (Option.bind (if ((a.kind==1)||(a.kind==8))=true then Option.bind (zaw a.at_  z b c e) fun r=>some r else Option.bind (if ((a.kind==2)&&(a.who==0))=true then Option.bind (qZ a.at_  z b c e) fun s=>some s else Option.bind (if (a.kind==2)=true then Option.bind (Qe a.at_  z b c e) fun t=>some t else some e) fun u=>some u) fun v=>some v) fun w=>some w) fun x=>some x) fun y=>some (.nx y)) l.length 0 Q) fun A=>A.andThen (fun d=>some d) fun B =>
   Option.bind (zG (fun D i=>Option.bind (Option.bind (idx h.1 (D:Int)) fun g=>Option.bind (Option.bind (if (g.after==5)=true then Option.bind (idx l g.event) fun E=>Option.bind (Qj E.at_  z b c i) fun F=>some F else Option.bind (if (g.after==6)=true then Option.bind (idx l g.event) fun G=>Option.bind (Qd G.at_  z b c i) fun H=>some H else some i) fun I=>some I) fun J=>some J) fun K=>some K) fun L=>some (.nx L)) h.1.length 0 B) fun M=>M.andThen (fun d=>some d) fun N =>
   some (N,0)
noncomputable def QG(f:zr)(l:(List zk))(z:zP)(c:Int)(e:Int):Option ((List Int)×Int) :=
 Option.bind (Ja f l) fun g =>
 if (g.2.2 != 0)=true then
  some (([]:(List Int)),g.2.2)
 else
  Option.bind (jq z c e) fun h =>
  if (h != 0)=true then
   some (([]:(List Int)),h)
  else
   Option.bind (ji 35184372088832 168 (0:Int)) fun n =>
   Option.bind (zG (fun o b=>Option.bind (Option.bind (idx l (o:Int)) fun d=>if ((d.kind != 2)||(d.who != 0))=true then some b else Option.bind (jh z d.at_) fun a=>Option.bind (if (zX a.1 c (w64 ((w64 (c+e))-1)))=true then Option.bind (idx b (w64 ((w64 ((Int.tmod a.1 7)*24))+(w64 (Int.tdiv a.2.1 60))))) fun i=>Option.bind (setI b (w64 ((w64 ((Int.tmod a.1 7)*24))+(w64 (Int.tdiv a.2.1 60)))) (w64 (i+1))) fun j=>some j else some b) fun m=>some m) fun p=>some (.nx p)) l.length 0 n) fun q=>q.andThen (fun s=>some s) fun r =>
   some (r,0)
def qK(c:(List desk_Day))(d:(List desk_Day)):Option Bool :=
 if ((c.length:Int) != (d.length:Int))=true then
  some false
 else
  Option.bind (zG (fun e _=>Option.bind (idx c (e:Int)) fun a=>Option.bind (idx d (e:Int)) fun b=>if (!(a.day==b.day&&(a.opened==b.opened&&(a.said==b.said&&(a.replied==b.replied&&(a.solved==b.solved&&(a.closed==b.closed)))))))=true then some (.rt false) else some (.nx ())) c.length 0 ()) fun f=>f.andThen (fun g=>some g) fun h =>
  some true
noncomputable def zaj(f:zr)(l:(List zk))(row:Int)(t:Int)(z:zP)(b:Int)(c:Int)(e:Int):Option Bool :=
 Option.bind (Jw) fun a0 =>
 if (!a0)=true then
  some false
 else
  Option.bind (Ja f l) fun r =>
  Option.bind (JE f l row t) fun s =>
  Option.bind (JE f l t row) fun h =>
  if (((r.2.2 != 0)||(s.2 != 0))||(h.2 != 0))=true then
   some true
  else
   Option.bind (zG (fun x u=>Option.bind (Option.bind (idx r.1 (x:Int)) fun y=>Option.bind (if (y.into==0)=true then some (w64 (u+1)) else some u) fun A=>some A) fun B=>some (.nx B)) r.1.length 0 0) fun D=>D.andThen (fun a=>some a) fun E =>
   Option.bind (zG (fun i F=>Option.bind (α:=Lp _ _) (Option.bind (idx s.1.counts (i:Int)) fun v=>Option.bind (zG (fun g G=>Option.bind (idx v (g:Int)) fun w=>Option.bind (if (decide ((h.1.counts.length:Int)≤(g:Int)))=true then (some true) else (Option.bind (idx h.1.counts (g:Int)) fun H=>some (decide ((H.length:Int)≤(i:Int))))) fun I=>Option.bind (if I=true then (some true) else (Option.bind (idx h.1.counts (g:Int)) fun J=>Option.bind (idx J (i:Int)) fun K=>some (K != w))) fun L=>if L=true then some (.rt false) else some (.nx (w64 (G+w)))) v.length 0 F) fun M=>M.andThen (fun a=>some (.rt a)) fun N=>some (.fin N)) fun O=>O.andThen (fun a=>some (.rt a)) fun P=>some (.nx P)) s.1.counts.length 0 0) fun Q=>Q.andThen (fun a=>some a) fun R =>
   if (R != E)=true then
    some false
   else
    Option.bind (Qr f l z b c) fun j =>
    Option.bind (Qr f l z (w64 (b+c)) e) fun m =>
    Option.bind (Qr f l z b (w64 (c+e))) fun n =>
    Option.bind (QG f l z b c) fun o =>
    Option.bind (QG f l z (w64 (b+c)) e) fun p =>
    Option.bind (QG f l z b (w64 (c+e))) fun d =>
    if ((((((((j.2 != 0)||(m.2 != 0))||(n.2 != 0))||(o.2 != 0))||(p.2 != 0))||(d.2 != 0))||((o.1.length:Int) != (d.1.length:Int)))||((p.1.length:Int) != (d.1.length:Int)))=true then
     some (((j.2 != 0)||(m.2 != 0))||(n.2 != 0))
    else
     Option.bind (zG (fun q _=>Option.bind (idx o.1 (q:Int)) fun S=>Option.bind (idx p.1 (q:Int)) fun T=>Option.bind (idx d.1 (q:Int)) fun U=>if ((w64 (S+T)) != U)=true then some (.rt false) else some (.nx ())) d.1.length 0 ()) fun W=>W.andThen (fun a=>some a) fun a1 =>
     Option.bind (zE 2932031007402 j.1 m.1) fun X =>
     Option.bind (qK X n.1) fun Z =>
     some Z
end Go.Proofs.YtligccioljhapaaGreatDoor.M
