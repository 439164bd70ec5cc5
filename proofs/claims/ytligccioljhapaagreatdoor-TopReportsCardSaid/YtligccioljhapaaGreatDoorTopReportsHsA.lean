import Derived.Test.YtligccioljhapaaGreatDoorTopReportsM
import Derived.Test.YtligccioljhapaaGreatDoorPu
namespace Go.Proofs.YtligccioljhapaaGreatDoor.M
open Go Go.Pu
set_option linter.unusedVariables false
set_option linter.unusedSimpArgs false
structure zL where
 event:Int
 one:za
 other:za
structure zJ where
 form:zr
 states:(List za)
 log:(List zk)
 last:(List Int)
 before:(List zL)
def jU(c:Int):Bool :=
 ((decide ((48:Int)≤c))&&(decide (c≤57)))
noncomputable def jg(s:ByteArray):Option Bool :=
 Option.bind (if ((decide ((s.size:Int)<1))||(decide ((20:Int)<(s.size:Int))))=true then (some true) else (Option.bind (idxS s 0) fun x5=>some (decide ((x5.toNat:Int)<97)))) fun s4 =>
 Option.bind (if s4=true then (some true) else (Option.bind (idxS s 0) fun x8=>some (decide ((122:Int)<(x8.toNat:Int))))) fun s7 =>
 if s7=true then
  some false
 else
  Option.bind (jO (fun s17=>if (decide (s17<(s.size:Int)))=true then Option.bind (idxS s s17) fun x27=>Option.bind (if (decide ((97:Int)≤(x27.toNat:Int)))=true then (some (decide ((x27.toNat:Int)≤122))) else (some false)) fun s29=>Option.bind (if s29=true then (some true) else (some (jU (x27.toNat:Int)))) fun s31=>Option.bind (if s31=true then (some true) else (some ((x27.toNat:Int)==95))) fun s33=>if (!s33)=true then some (.rt false) else some (.nx (w64 (s17+1))) else some (.bk s17)) 0) fun o10=>o10.andThen (fun y=>some y) fun s11 =>
  some true
def zR(n:Int)(low:Int)(high:Int):Bool :=
 ((decide (low≤n))&&(decide (n≤high)))
def zat(l:(List ByteArray))(s:ByteArray):Option Bool :=
 Option.bind (zG (fun k6 _=>Option.bind (idx l (k6:Int)) fun x21=>if (Zw x21 s)=true then some (.rt true) else some (.nx ())) l.length 0 ()) fun o3=>o3.andThen (fun y=>some y) fun s4 =>
 some false
noncomputable def zda(f:zr):Option Int :=
 if (decide ((20:Int)<(f.fields.length:Int)))=true then
  some 4
 else
  Option.bind (zG (fun k21 _=>Option.bind (idx f.fields (k21:Int)) fun x40=>Option.bind (jg x40.name) fun x59=>if (!x59)=true then some (.rt 3) else Option.bind (jE f.fields none (some (k21:Int))) fun x65=>Option.bind (zG (fun k71 _=>Option.bind (idx x65 (k71:Int)) fun x90=>if (Zw x90.name x40.name)=true then some (.rt 6) else some (.nx ())) x65.length 0 ()) fun o68=>o68.andThen (fun y=>some (.rt y)) fun s69=>if (!(zR x40.kind 1 6))=true then some (.rt 10) else if (!((x40.kind==4)==(decide ((0:Int)<(x40.options.length:Int)))))=true then some (.rt 1) else if (decide ((20:Int)<(x40.options.length:Int)))=true then some (.rt 4) else Option.bind (zG (fun k134 _=>Option.bind (idx x40.options (k134:Int)) fun x149=>Option.bind (jg x149) fun x153=>if (!x153)=true then some (.rt 3) else Option.bind (jE x40.options none (some (k134:Int))) fun x159=>Option.bind (zat x159 x149) fun x162=>if x162=true then some (.rt 6) else some (.nx ())) x40.options.length 0 ()) fun o131=>o131.andThen (fun y=>some (.rt y)) fun s132=>if (!(zR x40.needs 0 6))=true then some (.rt 2) else some (.nx ())) f.fields.length 0 ()) fun o18=>o18.andThen (fun y=>some y) fun s19 =>
  some 0
def portref1_NewDesk(f:zr):Option zJ :=
 some (⟨f,([]:(List za)),([]:(List zk)),([]:(List Int)),([]:(List zL))⟩:zJ)
def zfm(e:zk):Option Bool :=
 some ((((((e.kind==4)||((e.kind==10)&&(e.message==0)))||(e.field==0))&&(((e.kind==1)||((decide ((5:Int)≤e.kind))&&(decide (e.kind≤8))))||(e.to_==0)))&&(((((e.kind==2)||(e.kind==3))||(e.kind==8))||(e.kind==10))||(e.message==0)))&&((e.kind==4)||(e.value.kind==0&&(e.value.int==0&&(Zw e.value.text ByteArray.empty)))))
def zaO(d:zJ)(e:zk):Option Int :=
 if (decide ((400:Int)≤(d.states.length:Int)))=true then
  some 16
 else
  if (e.ticket != (w64 ((d.states.length:Int)+1)))=true then
   some 5
  else
   if (!(zR e.to_ 1 4))=true then
    some 2
   else
    some 0
def zaS(d:zJ)(no:Int):Option (Option za) :=
 if (!(zR no 1 (d.states.length:Int)))=true then
  some none
 else
  Option.bind (idx d.states (w64 (no-1))) fun x10 =>
  some (some x10)
def qw(l:(List Int))(n:Int):Option Bool :=
 Option.bind (zG (fun k6 _=>Option.bind (idx l (k6:Int)) fun x21=>if (x21==n)=true then some (.rt true) else some (.nx ())) l.length 0 ()) fun o3=>o3.andThen (fun y=>some y) fun s4 =>
 some false
def zaG(d:zJ)(message:Int):Option Int :=
 Option.bind (zG (fun k8 _=>Option.bind (idx d.states (k8:Int)) fun x27=>Option.bind (qw x27.messages message) fun x59=>Option.bind (if x59=true then (some true) else (Option.bind (qw x27.notes message) fun x66=>some x66)) fun s61=>if s61=true then some (.rt x27.no) else some (.nx ())) d.states.length 0 ()) fun o5=>o5.andThen (fun y=>some y) fun s6 =>
 some 0
def zeG(v:api_Value):Option Bool :=
 some ((((v.kind != 0)||(v.int==0))&&((v.kind==3)||(Zw v.text (⟨#[]⟩:ByteArray))))&&((v.kind != 3)||(v.int==0)))
noncomputable def zcs(s:ByteArray)(tab:Bool):Option Bool :=
 Option.bind (jO (fun s8=>if (decide (s8<(s.size:Int)))=true then Option.bind (idxS s s8) fun x18=>Option.bind (if (decide ((x18.toNat:Int)<32))=true then (Option.bind (if tab=true then (some ((x18.toNat:Int)==9)) else (some false)) fun s22=>some (!s22)) else (some false)) fun s20=>if s20=true then some (.rt true) else some (.nx (w64 (s8+1))) else some (.bk s8)) 0) fun o1=>o1.andThen (fun y=>some y) fun s2 =>
 some false
noncomputable def zbe(x:zF)(v:api_Value):Option Int :=
 Option.bind (zeG v) fun x16 =>
 if (!x16)=true then
  some 1
 else
  if ((v.kind != 0)&&(v.kind != x.kind))=true then
   some 10
  else
   Option.bind (Option.bind (if (v.kind==1)=true then some (zR v.int 0 1) else Option.bind (if (v.kind==4)=true then some (zR v.int 0 (w64 ((x.options.length:Int)-1))) else Option.bind (if (v.kind==5)=true then some (zR v.int 0 3000000) else Option.bind (if (v.kind==6)=true then some (zR v.int 1 40) else Option.bind (if (v.kind==2)=true then some (zR v.int (-1000000000) 1000000000) else some true) fun s75=>some s75) fun s66=>some s66) fun s57=>some s57) fun s44=>some s44) fun s35=>some s35) fun s29 =>
   if (!s29)=true then
    some 2
   else
    if (decide ((200:Int)<(v.text.size:Int)))=true then
     some 4
    else
     Option.bind (zcs v.text false) fun x93 =>
     if x93=true then
      some 9
     else
      some 0
noncomputable def JN(d:zJ)(s:za)(e:zk):Option Int :=
 if (!(zR e.field 0 (w64 ((d.form.fields.length:Int)-1))))=true then
  some 7
 else
  Option.bind (idx d.form.fields e.field) fun x29 =>
  Option.bind (zbe x29 e.value) fun x48 =>
  if (x48 != 0)=true then
   some x48
  else
   if (e.who==0)=true then
    some 12
   else
    if (s.status==6)=true then
     some 11
    else
     if (((e.value.kind==0)&&(x29.needs != 0))&&(decide (x29.needs≤s.status)))=true then
      some 1
     else
      some 0
def zbS(from_:Int)(to_:Int):Bool :=
 if (from_==1)=true then
  (zR to_ 2 5)
 else
  if (from_==2)=true then
   (zR to_ 3 5)
  else
   if (from_==3)=true then
    (((to_==4)||(to_==2))||(to_==5))
   else
    if (from_==4)=true then
     (((to_==3)||(to_==2))||(to_==5))
    else
     if (from_==5)=true then
      ((to_==2)||(to_==6))
     else
      false
def Jq(d:zJ)(s:za)(e:zk):Option Int :=
 if (!(zR e.to_ 1 6))=true then
  some 2
 else
  if (!(zbS s.status e.to_))=true then
   some 11
  else
   if ((e.who==0)&&(!((s.status==5)&&(e.to_==2))))=true then
    some 12
   else
    Option.bind (zG (fun k31 _=>Option.bind (idx d.form.fields (k31:Int)) fun x51=>Option.bind (if ((x51.needs != 0)&&(decide (x51.needs≤e.to_)))=true then (Option.bind (idx s.values (k31:Int)) fun x80=>some (x80.kind==0)) else (some false)) fun s75=>if s75=true then some (.rt 1) else some (.nx ())) d.form.fields.length 0 ()) fun o28=>o28.andThen (fun y=>some y) fun s29 =>
    some 0
def Ji(d:zJ)(s:za)(e:zk):Option Int :=
 Option.bind (zaS d e.to_) fun x8 =>
 match x8 with
 | none =>
  some 7
 | some s13 =>
  if (e.to_==e.ticket)=true then
   some 13
  else
   if (s13.into != 0)=true then
    some 11
   else
    if (e.who==0)=true then
     some 12
    else
     if ((s.status==6)||(s13.status==6))=true then
      some 11
     else
      some 0
def Jt(d:zJ)(s:za)(e:zk):Option Int :=
 if (decide ((400:Int)≤(d.states.length:Int)))=true then
  some 16
 else
  if (e.to_ != (w64 ((d.states.length:Int)+1)))=true then
   some 5
  else
   Option.bind (qw s.messages e.message) fun x26 =>
   if (!x26)=true then
    some 7
   else
    Option.bind (idx s.messages 0) fun x35 =>
    if (x35==e.message)=true then
     some 1
    else
     if (e.who==0)=true then
      some 12
     else
      if (s.status==6)=true then
       some 11
      else
       some 0
def Jj(d:zJ)(e:zk):Option Int :=
 if (e.who==0)=true then
  some 12
 else
  Option.bind (idx d.last (w64 (e.ticket-1))) fun x14 =>
  Option.bind (idx d.log x14) fun x25 =>
  if ((x25.ticket != e.ticket)||((x25.kind != 7)&&(x25.kind != 8)))=true then
   some 7
  else
   Option.bind (idx d.last (w64 (x25.to_-1))) fun x52 =>
   if (x52 != x14)=true then
    some 11
   else
    some 0
noncomputable def qH(d:zJ)(e:zk):Option Int :=
 if (decide ((6000:Int)≤(d.log.length:Int)))=true then
  some 16
 else
  if (!(zR e.kind 1 10))=true then
   some 10
  else
   Option.bind (zfm e) fun x15 =>
   if (!x15)=true then
    some 1
   else
    if ((!(zR e.at_ 0 3000000))||(!(zR e.who (-1) 40)))=true then
     some 2
    else
     Option.bind (if (decide ((0:Int)<(d.log.length:Int)))=true then (Option.bind (idx d.log (w64 ((d.log.length:Int)-1))) fun x41=>some (decide (e.at_<x41.at_))) else (some false)) fun s31 =>
     if s31=true then
      some 5
     else
      if (e.kind==1)=true then
       Option.bind (zaO d e) fun x53 =>
       some x53
      else
       Option.bind (zaS d e.ticket) fun x58 =>
       match x58 with
       | none =>
        some 7
       | some s63 =>
        if (((s63.into != 0)&&(e.kind != 10))&&(e.kind != 9))=true then
         some 11
        else
         Option.bind (α:=Lp _ _) (Option.bind (if (e.kind==2)=true then some (e.kind==2) else some (e.kind==3)) fun s87=>Option.bind (α:=Lp _ _) (if s87=true then if (!(zR e.message 1 1000))=true then some (.rt 2) else Option.bind (zaG d e.message) fun x107=>if (decide ((0:Int)<x107))=true then some (.rt 6) else if ((e.kind==3)&&(e.who==0))=true then some (.rt 12) else some (.fin ()) else Option.bind (α:=Lp _ _) (if (e.kind==4)=true then Option.bind (JN d s63 e) fun x128=>some (.rt x128) else Option.bind (α:=Lp _ _) (if (e.kind==5)=true then Option.bind (Jq d s63 e) fun x142=>some (.rt x142) else Option.bind (α:=Lp _ _) (if (e.kind==6)=true then if (!(zR e.to_ 0 40))=true then some (.rt 2) else if (e.who==0)=true then some (.rt 12) else if (e.to_==s63.person)=true then some (.rt 6) else some (.fin ()) else Option.bind (α:=Lp _ _) (if (e.kind==7)=true then Option.bind (Ji d s63 e) fun x176=>some (.rt x176) else Option.bind (α:=Lp _ _) (if (e.kind==8)=true then Option.bind (Jt d s63 e) fun x190=>some (.rt x190) else Option.bind (α:=Lp _ _) (if (e.kind==9)=true then Option.bind (Jj d e) fun x204=>some (.rt x204) else Option.bind (α:=Lp _ _) (if (e.kind==10)=true then if (e.who==0)=true then some (.rt 12) else Option.bind (if (e.message != 0)=true then (Option.bind (qw s63.messages e.message) fun x227=>some (!x227)) else (some false)) fun s221=>Option.bind (if s221=true then (Option.bind (qw s63.notes e.message) fun x235=>some (!x235)) else (some false)) fun s229=>Option.bind (if s229=true then some s229 else some ((e.message==0)&&(!(zR e.field 0 (w64 ((d.form.fields.length:Int)-1)))))) fun s240=>if s240=true then some (.rt 7) else some (.fin ()) else some (.fin ())) fun o208=>o208.andThen (fun y=>some (.rt y)) fun s209=>some (.fin ())) fun o194=>o194.andThen (fun y=>some (.rt y)) fun s195=>some (.fin ())) fun o180=>o180.andThen (fun y=>some (.rt y)) fun s181=>some (.fin ())) fun o166=>o166.andThen (fun y=>some (.rt y)) fun s167=>some (.fin ())) fun o146=>o146.andThen (fun y=>some (.rt y)) fun s147=>some (.fin ())) fun o132=>o132.andThen (fun y=>some (.rt y)) fun s133=>some (.fin ())) fun o118=>o118.andThen (fun y=>some (.rt y)) fun s119=>some (.fin ())) fun o95=>o95.andThen (fun y=>some (.rt y)) fun s96=>some (.fin ())) fun o78=>o78.andThen (fun y=>some y) fun s79 =>
         some 0
def Zq(d:zJ)(no:Int)(event:Int)(at_:Int):Option zJ :=
 Option.bind (idx d.last (w64 (no-1))) fun x11 =>
 Option.bind (setI d.last (w64 (no-1)) event) fun x16 =>
 Option.bind (idx d.states (w64 (no-1))) fun x20 =>
 Option.bind (setI d.states (w64 (no-1)) ({ (x20:za)with events:=w64 (x20.events+1) })) fun x31 =>
 Option.bind (idx x31 (w64 (no-1))) fun x36 =>
 Option.bind (setI x31 (w64 (no-1)) ({ (x36:za)with changed:=at_ })) fun x42 =>
 some (⟨d.form,x42,d.log,x16,d.before⟩:zJ)
def QQ(l:(List Int))(n:Int):Option (List Int) :=
 Option.bind (zG (fun k6 s14=>Option.bind (idx l (k6:Int)) fun x29=>Option.bind (if ((!s14.2)&&(decide (n<x29)))=true then Option.bind (zE 17592186044416 s14.1 ([n]:List Int)) fun x51=>some (x51,true) else some (s14.1,s14.2)) fun s36=>Option.bind (zE 17592186044416 s36.1 ([x29]:List Int)) fun x64=>some (.nx (x64,s36.2))) l.length 0 (([]:(List Int)),false)) fun o3=>o3.andThen (fun y=>some y) fun s4 =>
 Option.bind (if (!s4.2)=true then Option.bind (zE 17592186044416 s4.1 ([n]:List Int)) fun x89=>some x89 else some s4.1) fun s74 =>
 some s74
def zaf(s:za):Option za :=
 Option.bind (zE 4398046511104 ([]:List api_Value) s.values) fun x23 =>
 Option.bind (zE 17592186044416 ([]:List Int) s.messages) fun x40 =>
 Option.bind (zE 17592186044416 ([]:List Int) s.notes) fun x57 =>
 some (⟨s.no,s.opened,s.changed,s.status,s.priority,s.person,s.into,s.from_,x23,x40,x57,s.events⟩:za)
def zcc(d:zJ)(e:zk)(n:Int):Option zJ :=
 Option.bind (idx d.last (w64 (e.ticket-1))) fun x18 =>
 Option.bind (idx d.log x18) fun x26 =>
 Option.bind (zG (fun k48 s66=>Option.bind (Option.bind (idx d.before (k48:Int)) fun x111=>Option.bind (if (x111.event==x18)=true then some x111 else some s66) fun s157=>some s157) fun s92=>some (.nx s92)) d.before.length 0 (⟨0,(⟨0,0,0,0,0,0,0,0,([]:(List api_Value)),([]:(List Int)),([]:(List Int)),0⟩:za),(⟨0,0,0,0,0,0,0,0,([]:(List api_Value)),([]:(List Int)),([]:(List Int)),0⟩:za)⟩:zL)) fun o45=>o45.andThen (fun y=>some y) fun s46 =>
 Option.bind (idx d.states (w64 (e.ticket-1))) fun x218 =>
 Option.bind (idx d.states (w64 (x26.to_-1))) fun x224 =>
 Option.bind (setI d.states (w64 (e.ticket-1)) ({ (x218:za)with status:=s46.one.status })) fun x255 =>
 Option.bind (idx x255 (w64 (e.ticket-1))) fun x259 =>
 Option.bind (setI x255 (w64 (e.ticket-1)) ({ (x259:za)with into:=s46.one.into })) fun x262 =>
 Option.bind (idx x262 (w64 (e.ticket-1))) fun x266 =>
 Option.bind (setI x262 (w64 (e.ticket-1)) ({ (x266:za)with messages:=s46.one.messages })) fun x269 =>
 Option.bind (idx x269 (w64 (e.ticket-1))) fun x273 =>
 Option.bind (setI x269 (w64 (e.ticket-1)) ({ (x273:za)with notes:=s46.one.notes })) fun x276 =>
 Option.bind (if (x26.kind==7)=true then Option.bind (idx x276 (w64 (x26.to_-1))) fun x317=>Option.bind (setI x276 (w64 (x26.to_-1)) ({ (x317:za)with status:=s46.other.status })) fun x320=>Option.bind (idx x320 (w64 (x26.to_-1))) fun x324=>Option.bind (setI x320 (w64 (x26.to_-1)) ({ (x324:za)with into:=s46.other.into })) fun x327=>Option.bind (idx x327 (w64 (x26.to_-1))) fun x331=>Option.bind (setI x327 (w64 (x26.to_-1)) ({ (x331:za)with messages:=s46.other.messages })) fun x334=>Option.bind (idx x334 (w64 (x26.to_-1))) fun x338=>Option.bind (setI x334 (w64 (x26.to_-1)) ({ (x338:za)with notes:=s46.other.notes })) fun x341=>some (⟨d.form,x341,d.log,d.last,d.before⟩:zJ) else Option.bind (idx x276 (w64 (x26.to_-1))) fun x346=>Option.bind (setI x276 (w64 (x26.to_-1)) ({ (x346:za)with status:=6 })) fun x349=>Option.bind (idx x349 (w64 (x26.to_-1))) fun x353=>Option.bind (setI x349 (w64 (x26.to_-1)) ({ (x353:za)with messages:=([]:(List Int)) })) fun x356=>some (⟨d.form,x356,d.log,d.last,d.before⟩:zJ)) fun s282 =>
 Option.bind (Zq s282 x26.to_ n e.at_) fun x363 =>
 some x363
noncomputable def ZS(d:zJ)(e:zk):Option (Int×zJ) :=
 Option.bind (qH d e) fun x18 =>
 if (x18 != 0)=true then
  some (x18,d)
 else
  Option.bind (zE 1599289640401 d.log ([e]:List zk)) fun x32 =>
  if (e.kind==1)=true then
   Option.bind (ji 8796093022208 (d.form.fields.length:Int) (⟨0,0,ByteArray.empty⟩:api_Value)) fun x52 =>
   Option.bind (zE 977343669134 d.states ([(⟨e.ticket,e.at_,0,1,e.to_,0,0,0,x52,([]:(List Int)),([]:(List Int)),0⟩:za)]:List za)) fun x75 =>
   Option.bind (zE 17592186044416 d.last ([(d.log.length:Int)]:List Int)) fun x93 =>
   Option.bind (Zq (⟨d.form,x75,x32,x93,d.before⟩:zJ) e.ticket (d.log.length:Int) e.at_) fun x107 =>
   some (0,x107)
  else
   Option.bind (idx d.states (w64 (e.ticket-1))) fun x123 =>
   Option.bind (Option.bind (if (e.kind==2)=true then Option.bind (QQ x123.messages e.message) fun x177=>Option.bind (setI d.states (w64 (e.ticket-1)) ({ (x123:za)with messages:=x177 })) fun x192=>Option.bind (idx x192 (w64 (e.ticket-1))) fun x196=>Option.bind (if (((e.who==0)&&((x196.status==3)||(x196.status==5)))||((decide ((0:Int)<e.who))&&(x196.status==1)))=true then Option.bind (setI x192 (w64 (e.ticket-1)) ({ (x196:za)with status:=2 })) fun x231=>some (⟨d.form,x231,x32,d.last,d.before⟩:zJ) else some (⟨d.form,x192,x32,d.last,d.before⟩:zJ)) fun s212=>some s212 else Option.bind (if (e.kind==3)=true then Option.bind (QQ x123.notes e.message) fun x265=>Option.bind (setI d.states (w64 (e.ticket-1)) ({ (x123:za)with notes:=x265 })) fun x280=>some (⟨d.form,x280,x32,d.last,d.before⟩:zJ) else Option.bind (if (e.kind==4)=true then Option.bind (idx x123.values e.field) fun x317=>Option.bind (setI x123.values e.field e.value) fun x325=>Option.bind (setI d.states (w64 (e.ticket-1)) ({ (x123:za)with values:=x325 })) fun x329=>some (⟨d.form,x329,x32,d.last,d.before⟩:zJ) else Option.bind (if (e.kind==5)=true then Option.bind (setI d.states (w64 (e.ticket-1)) ({ (x123:za)with status:=e.to_ })) fun x352=>some (⟨d.form,x352,x32,d.last,d.before⟩:zJ) else Option.bind (if (e.kind==6)=true then Option.bind (setI d.states (w64 (e.ticket-1)) ({ (x123:za)with person:=e.to_ })) fun x378=>some (⟨d.form,x378,x32,d.last,d.before⟩:zJ) else Option.bind (if (e.kind==7)=true then Option.bind (idx d.states (w64 (e.to_-1))) fun x403=>Option.bind (zaf x123) fun x428=>Option.bind (zaf x403) fun x438=>Option.bind (zE 475464487686 d.before ([(⟨(d.log.length:Int),x428,x438⟩:zL)]:List zL)) fun x491=>Option.bind (zG (R:=Empty) (fun k511 s527=>Option.bind (idx x123.messages (k511:Int)) fun x550=>Option.bind (idx s527.states (w64 (e.to_-1))) fun x554=>Option.bind (QQ x554.messages x550) fun x560=>Option.bind (setI s527.states (w64 (e.to_-1)) ({ (x554:za)with messages:=x560 })) fun x575=>some (.nx (⟨s527.form,x575,s527.log,s527.last,s527.before⟩:zJ))) x123.messages.length 0 (⟨d.form,d.states,x32,d.last,x491⟩:zJ)) fun o508=>o508.andThen (fun y=>y.elim) fun s509=>Option.bind (idx s509.states (w64 (e.ticket-1))) fun x582=>Option.bind (zG (R:=Empty) (fun k591 s607=>Option.bind (idx x582.notes (k591:Int)) fun x630=>Option.bind (idx s607.states (w64 (e.to_-1))) fun x634=>Option.bind (QQ x634.notes x630) fun x640=>Option.bind (setI s607.states (w64 (e.to_-1)) ({ (x634:za)with notes:=x640 })) fun x655=>some (.nx (⟨s607.form,x655,s607.log,s607.last,s607.before⟩:zJ))) x582.notes.length 0 s509) fun o588=>o588.andThen (fun y=>y.elim) fun s589=>Option.bind (idx s589.states (w64 (e.ticket-1))) fun x663=>Option.bind (setI s589.states (w64 (e.ticket-1)) ({ (x663:za)with into:=e.to_ })) fun x666=>Option.bind (idx x666 (w64 (e.ticket-1))) fun x670=>Option.bind (setI x666 (w64 (e.ticket-1)) ({ (x670:za)with status:=6 })) fun x673=>Option.bind (idx x673 (w64 (e.ticket-1))) fun x677=>Option.bind (setI x673 (w64 (e.ticket-1)) ({ (x677:za)with messages:=([]:(List Int)) })) fun x680=>Option.bind (idx x680 (w64 (e.ticket-1))) fun x684=>Option.bind (setI x680 (w64 (e.ticket-1)) ({ (x684:za)with notes:=([]:(List Int)) })) fun x687=>some (⟨s589.form,x687,s589.log,s589.last,s589.before⟩:zJ) else Option.bind (if (e.kind==8)=true then Option.bind (zaf x123) fun x721=>Option.bind (zE 475464487686 d.before ([(⟨(d.log.length:Int),x721,(⟨0,0,0,0,0,0,0,0,([]:(List api_Value)),([]:(List Int)),([]:(List Int)),0⟩:za)⟩:zL)]:List zL)) fun x756=>Option.bind (ji 8796093022208 (d.form.fields.length:Int) (⟨0,0,ByteArray.empty⟩:api_Value)) fun x1110=>Option.bind (zG (R:=Empty) (fun k1142 s1156=>Option.bind (Option.bind (idx x123.messages (k1142:Int)) fun x1193=>Option.bind (if (decide (x1193<e.message))=true then Option.bind (zE 17592186044416 s1156.1 ([x1193]:List Int)) fun x1220=>some (x1220,s1156.2) else Option.bind (zE 17592186044416 s1156.2.messages ([x1193]:List Int)) fun x1232=>some (s1156.1,(⟨s1156.2.no,s1156.2.opened,s1156.2.changed,s1156.2.status,s1156.2.priority,s1156.2.person,s1156.2.into,s1156.2.from_,s1156.2.values,x1232,s1156.2.notes,s1156.2.events⟩:za))) fun s1199=>some (s1199.1,s1199.2)) fun s1178=>some (.nx (s1178.1,s1178.2))) x123.messages.length 0 (([]:(List Int)),(⟨e.to_,e.at_,0,2,x123.priority,0,0,e.ticket,x1110,([]:(List Int)),([]:(List Int)),0⟩:za))) fun o1139=>o1139.andThen (fun y=>y.elim) fun s1140=>Option.bind (setI d.states (w64 (e.ticket-1)) ({ (x123:za)with messages:=s1140.1 })) fun x1256=>Option.bind (zE 977343669134 x1256 ([s1140.2]:List za)) fun x1402=>Option.bind (zE 17592186044416 d.last ([(d.log.length:Int)]:List Int)) fun x1415=>Option.bind (idx x1402 (w64 (e.ticket-1))) fun x1435=>some (⟨d.form,x1402,x32,x1415,x756⟩:zJ) else Option.bind (if (e.kind==9)=true then Option.bind (zcc (⟨d.form,d.states,x32,d.last,d.before⟩:zJ) e (d.log.length:Int)) fun x1464=>some x1464 else Option.bind (if (e.kind==10)=true then Option.bind (if (e.message==0)=true then Option.bind (idx x123.values e.field) fun x1530=>Option.bind (setI x123.values e.field (⟨0,0,ByteArray.empty⟩:api_Value)) fun x1538=>Option.bind (setI d.states (w64 (e.ticket-1)) ({ (x123:za)with values:=x1538 })) fun x1542=>some (⟨d.form,x1542,x32,d.last,d.before⟩:zJ) else some (⟨d.form,d.states,x32,d.last,d.before⟩:zJ)) fun s1501=>some s1501 else some (⟨d.form,d.states,x32,d.last,d.before⟩:zJ)) fun s1481=>some s1481) fun s1445=>some s1445) fun s693=>some s693) fun s384=>some s384) fun s358=>some s358) fun s332=>some s332) fun s286=>some s286) fun s239=>some s239) fun s151=>some s151) fun s133 =>
   Option.bind (Zq s133 e.ticket (d.log.length:Int) e.at_) fun x1558 =>
   Option.bind (if ((e.kind==7)||(e.kind==8))=true then Option.bind (Zq x1558 e.to_ (d.log.length:Int) e.at_) fun x1598=>some x1598 else some x1558) fun s1578 =>
   some (0,s1578)
end Go.Proofs.YtligccioljhapaaGreatDoor.M
namespace Go.Proofs.YtligccioljhapaaGreatDoor.M
open Go Go.Pu
set_option linter.unusedSimpArgs false
set_option linter.unusedVariables false
theorem JJ{κ α:Type}[DecidableEq κ](l:List (κ×α))(k e:κ)(v:α):zp (Qt l k v) e=if k=e then some v else zp l e:=by{
 unfold Qt;by_cases h:∃p∈l,p.1=k;rw[if_pos h];induction l with
 | nil=>obtain⟨p,hp,_⟩:=h;simp at hp
 | cons p l ih =>
  rw[List.map_cons,zp,zp]
  by_cases hp:p.1=k
  rw[if_pos hp]
  by_cases f:k=e
  rw[if_pos f,if_pos f]
  rw[if_neg f,if_neg f,if_neg (by rw[hp];exact f)]
  by_cases g:∃p∈l,p.1=k
  rw[ih g,if_neg f]
  have:l.map (fun c=>if c.1=k then (k,v) else c)=l:=by
   conv=>rhs;rw[← List.map_id l]
   apply List.map_congr_left
   intro c d
   rw[if_neg (fun a=>g ⟨c,d,a⟩)]
   rfl
  rw[this]
  rw[if_neg hp]
  have g:∃p∈l,p.1=k:=by
   obtain⟨c,d,a⟩:=h
   rcases List.mem_cons.1 d with rfl|d
   exact absurd a hp
   exact⟨c,d,a⟩
  by_cases b:p.1=e
  rw[if_pos b,if_pos b,if_neg (fun a=>hp (b.trans a.symm))]
  rw[if_neg b,if_neg b,ih g]
 rw[if_neg h];induction l with
 | nil=>simp[zp]
 | cons p l ih =>
  have hp:p.1≠k:=fun a=>h ⟨p,by simp,a⟩
  have g:¬∃p∈l,p.1=k:=fun⟨c,d,a⟩=>h ⟨c,by simp[d],a⟩
  rw[List.cons_append,zp,zp,ih g]
  by_cases b:p.1=e
  rw[if_pos b,if_pos b,if_neg (fun a=>hp (b.trans a.symm))]
  rw[if_neg b,if_neg b]}
end Go.Proofs.YtligccioljhapaaGreatDoor.M
namespace Go.Proofs.YtligccioljhapaaGreatDoor.M
open Go Go.Pu
set_option linter.unusedSimpArgs false
set_option linter.unusedVariables false
theorem zmh(s:ByteArray)(k:Nat):s[k]?=s.data.toList[k]?:=by{by_cases a:k<s.size;rw[getElem?_pos s k a];have b:k<s.data.toList.length:=a;rw[List.getElem?_eq_getElem b];rfl;rw[getElem?_neg s k a,List.getElem?_eq_none (by simpa using a)]}
theorem zdO(s:ByteArray)(k:Nat):idxS s (k:Int)=s.data.toList[k]?:=by{unfold idxS;rw[if_pos (by omega),Int.toNat_natCast,zmh]}
theorem zkZ(x:ByteArray):Zw x (⟨#[]⟩:ByteArray)=(x.data.toList == []):=by{unfold Zw;rw[ByteArray.toList_eq,ByteArray.toList_eq]}
def g0(b:UInt8):Bool:=(decide ((97:Int)≤(b.toNat:Int)))&&(decide ((b.toNat:Int)≤122))
def g1(b:UInt8):Bool:=g0 b||((decide ((48:Int)≤(b.toNat:Int)))&&(decide ((b.toNat:Int)≤57)))||((b.toNat:Int)==95)
def nmL:List UInt8→Bool
 | []=>false
 | b::l=>g0 b&&l.all g1
theorem g01{b:UInt8}(a:g0 b=true):g1 b=true:=by unfold g1;rw[a];rfl
theorem zeA(l:List UInt8):nmL l=true↔0<l.length∧∀a b,l[a]?=some b→(if a=0 then g0 b else g1 b)=true:=by{
 cases l with
 | nil=>simp[nmL]
 | cons c l =>
  simp only[nmL,Bool.and_eq_true,List.all_eq_true,List.length_cons]
  constructor
  rintro⟨f,g⟩
  refine⟨by omega,fun a b d=>?_⟩
  cases a with
  | zero=>simp at d;subst d;simpa using f
  | succ a =>
   simp at d
   simpa using g b (List.mem_of_getElem? d)
  rintro⟨_,e⟩
  refine⟨by simpa using e 0 c rfl,fun b h=>?_⟩
  obtain⟨a,d⟩:=List.mem_iff_getElem?.1 h
  simpa using e (a+1) b (by simpa using d)}
theorem zji(s:ByteArray)(B:s.size≤9223372036854775807):jZ s=some (nmL s.data.toList&&decide ((s.size:Int)≤20)):=by{
 unfold jZ;have z:s.data.toList.length=s.size:=rfl
 obtain⟨l,t,u⟩:=JF (R:=Bool) (body:=fun (e:Int)=>if (decide (e<(s.size:Int)))=true then Option.bind (idxS s e) fun d=>if ((!((decide ((97:Int)≤(d.toNat:Int)))&&(decide ((d.toNat:Int)≤122))))&&((e==0)||((!((decide ((48:Int)≤(d.toNat:Int)))&&(decide ((d.toNat:Int)≤57))))&&((d.toNat:Int) != 95))))=true then some (.rt false) else some (.nx (w64 (e+1))) else some (.bk e))
  (fun m=>∃k:Nat,m=(k:Int)∧k≤s.size∧∀b a,b<k→s.data.toList[b]?=some a→(if b=0 then g0 a else g1 a)=true) (fun m=>s.size-m.toNat)
  (fun l=>(l=.rt false∧nmL s.data.toList=false)∨(∃r,l=.fin r∧∀b a,s.data.toList[b]?=some a→(if b=0 then g0 a else g1 a)=true)) (s:=0)
  ⟨0,rfl,Nat.zero_le _,fun b a c=>absurd c (Nat.not_lt_zero _)⟩
  (by
   rintro _⟨k,rfl,D,q⟩
   by_cases A:k<s.size
   ·have n:decide ((k:Int)<(s.size:Int))=true:=decide_eq_true (by omega)
    have g:s.data.toList[k]?=some (s.data.toList[k]'(by omega)):=List.getElem?_eq_getElem (by omega)
    generalize s.data.toList[k]'(by omega)=a at g
    have v:w64 ((k:Int)+1)=((k+1:Nat):Int):=by rw[ZB (by omega) (by omega)];omega
    simp only[n,if_true,zdO,g,Option.bind_some,v]
    have w:((!((decide ((97:Int)≤(a.toNat:Int)))&&(decide ((a.toNat:Int)≤122))))&&(((k:Int)==0)||((!((decide ((48:Int)≤(a.toNat:Int)))&&(decide ((a.toNat:Int)≤57))))&&((a.toNat:Int) != 95)))) = !(if k=0 then g0 a else g1 a):=by
     by_cases p:k=0
     ·subst p
      rw[if_pos rfl]
      show ((!g0 a)&&(true||_))=_
      simp
     ·rw[if_neg p]
      have:((k:Int)==0)=false:=by rw[beq_eq_false_iff_ne];omega
      rw[this]
      unfold g1 g0
      simp[bne,Bool.and_assoc]
    rw[w]
    by_cases f:(if k=0 then g0 a else g1 a)=true
    ·rw[f]
     refine⟨_,rfl,⟨k+1,rfl,by omega,fun b y h i=>?_⟩,by simp only[Int.toNat_natCast];omega⟩
     rcases Nat.lt_or_eq_of_le (Nat.le_of_lt_succ h)with c|rfl
     ·exact q b y c i
     ·rw[g]at i;cases i;exact f
    ·have o:=f
     rw[Bool.not_eq_true]at o
     rw[o]
     refine⟨_,rfl,.inl ⟨rfl,?_⟩⟩
     rw[← Bool.not_eq_true,zeA]
     rintro⟨_,c⟩
     exact f (c k a g)
   ·have n:decide ((k:Int)<(s.size:Int))=false:=decide_eq_false (by omega)
    simp only[n,Bool.false_eq_true,if_false]
    refine⟨_,rfl,.inr ⟨_,rfl,fun b a h=>q b a ?_ h⟩⟩
    have:=(List.getElem?_eq_some_iff.1 h).1
    omega)
 rw[t];rcases u with ⟨rfl,c⟩|⟨r,rfl,c⟩;rw[c];rfl;simp only[Option.bind_some,Lp.andThen_fin,zkZ];congr 1;by_cases j:s.data.toList=[];rw[j];rfl;have:nmL s.data.toList=true:=(zeA _).2 ⟨List.length_pos_iff.2 j,c⟩;rw[this];have x:(s.data.toList == [])=false:=by simpa using j
 rw[x];rfl}
theorem zhc(s:ByteArray):jg s=some (nmL s.data.toList&&decide ((s.size:Int)≤20)):=by{
 unfold jg;have L:s.data.toList.length=s.size:=rfl;by_cases z:(s.size:Int)<1;have o:s.data.toList=[]:=List.eq_nil_of_length_eq_zero (by omega);simp only[decide_eq_true z,Bool.true_or,if_true,Option.bind_some];rw[o];rfl;by_cases p:(20:Int)<(s.size:Int);simp only[decide_eq_true p,Bool.or_true,if_true,Option.bind_some];rw[decide_eq_false (show ¬(s.size:Int)≤20 by omega),Bool.and_false];have q:s.data.toList[0]?=some (s.data.toList[0]'(by omega)):=List.getElem?_eq_getElem (by omega);generalize s.data.toList[0]'(by omega)=b at q;have F:idxS s 0=some b:=by have:=zdO s 0;rw[q]at this;simpa using this
 simp only[decide_eq_false z,decide_eq_false p,Bool.or_false,Bool.false_eq_true,if_false,F,Option.bind_some];rw[decide_eq_true (show (s.size:Int)≤20 by omega),Bool.and_true];by_cases j:g0 b=true;rotate_left
 have l:nmL s.data.toList=false:=by
  rw[← Bool.not_eq_true,zeA]
  rintro⟨_,c⟩
  exact j (by simpa using c 0 b q)
 rw[l];unfold g0 at j;by_cases x:(b.toNat:Int)<97;simp only[decide_eq_true x,if_true,Option.bind_some]
 have D:(122:Int)<(b.toNat:Int):=by
  by_cases c:(b.toNat:Int)≤122
  exact absurd (by rw[decide_eq_true (show (97:Int)≤(b.toNat:Int) by omega),decide_eq_true c];rfl) j
  omega
 simp only[decide_eq_false x,Bool.false_eq_true,if_false,Option.bind_some,decide_eq_true D,if_true];have y:=j;unfold g0 at y;rw[Bool.and_eq_true,decide_eq_true_eq,decide_eq_true_eq]at y;simp only[decide_eq_false (show ¬(b.toNat:Int)<97 by omega),decide_eq_false (show ¬(122:Int)<(b.toNat:Int) by omega),Bool.false_eq_true,if_false,Option.bind_some]
 obtain⟨t,G,H⟩:=JF (R:=Bool) (body:=fun (m:Int)=>if (decide (m<(s.size:Int)))=true then Option.bind (idxS s m) fun n=>Option.bind (if (decide ((97:Int)≤(n.toNat:Int)))=true then (some (decide ((n.toNat:Int)≤122))) else (some false)) fun g=>Option.bind (if g=true then (some true) else (some (jU (n.toNat:Int)))) fun h=>Option.bind (if h=true then (some true) else (some ((n.toNat:Int)==95))) fun E=>if (!E)=true then some (.rt false) else some (.nx (w64 (m+1))) else some (.bk m))
  (fun u=>∃k:Nat,u=(k:Int)∧k≤s.size∧∀d b,d<k→s.data.toList[d]?=some b→g1 b=true) (fun u=>s.size-u.toNat)
  (fun t=>(t=.rt false∧∃b∈s.data.toList,g1 b=false)∨(∃B,t=.fin B∧∀d b,s.data.toList[d]?=some b→g1 b=true)) (s:=0)
  ⟨0,rfl,Nat.zero_le _,fun d b c=>absurd c (Nat.not_lt_zero _)⟩
  (by
   rintro _⟨k,rfl,N,A⟩
   by_cases M:k<s.size
   ·have v:decide ((k:Int)<(s.size:Int))=true:=decide_eq_true (by omega)
    have f:s.data.toList[k]?=some (s.data.toList[k]'(by omega)):=List.getElem?_eq_getElem (by omega)
    generalize s.data.toList[k]'(by omega)=a at f
    have I:w64 ((k:Int)+1)=((k+1:Nat):Int):=by rw[ZB (by omega) (by omega)];omega
    have O:(Option.bind (if (decide ((97:Int)≤(a.toNat:Int)))=true then (some (decide ((a.toNat:Int)≤122))) else (some false)) fun g=>Option.bind (if g=true then (some true) else (some (jU (a.toNat:Int)))) fun h=>(if h=true then (some true) else (some ((a.toNat:Int)==95))))=some (g1 a):=by
     unfold g1 g0 jU
     cases decide ((97:Int)≤(a.toNat:Int)) <;> cases decide ((a.toNat:Int)≤122) <;> cases decide ((48:Int)≤(a.toNat:Int)) <;> cases decide ((a.toNat:Int)≤57) <;> cases ((a.toNat:Int)==95) <;> rfl
    have J:∀(w:Bool→Option (Ctl Int Bool)),(Option.bind (if (decide ((97:Int)≤(a.toNat:Int)))=true then (some (decide ((a.toNat:Int)≤122))) else (some false)) fun g=>Option.bind (if g=true then (some true) else (some (jU (a.toNat:Int)))) fun h=>Option.bind (if h=true then (some true) else (some ((a.toNat:Int)==95))) w)=w (g1 a):=by
     intro w
     unfold g1 g0 jU
     cases decide ((97:Int)≤(a.toNat:Int)) <;> cases decide ((a.toNat:Int)≤122) <;> cases decide ((48:Int)≤(a.toNat:Int)) <;> cases decide ((a.toNat:Int)≤57) <;> cases ((a.toNat:Int)==95) <;> rfl
    simp only[v,if_true,zdO,f,Option.bind_some,I]
    rw[J]
    by_cases i:g1 a=true
    ·rw[i]
     refine⟨_,rfl,⟨k+1,rfl,by omega,fun d K e r=>?_⟩,by simp only[Int.toNat_natCast];omega⟩
     rcases Nat.lt_or_eq_of_le (Nat.le_of_lt_succ e)with c|rfl
     ·exact A d K c r
     ·rw[f]at r;cases r;exact i
    ·rw[Bool.not_eq_true]at i
     rw[i]
     exact⟨_,rfl,.inl ⟨rfl,a,List.mem_of_getElem? f,i⟩⟩
   ·have v:decide ((k:Int)<(s.size:Int))=false:=decide_eq_false (by omega)
    simp only[v,Bool.false_eq_true,if_false]
    refine⟨_,rfl,.inr ⟨_,rfl,fun d b e=>A d b ?_ e⟩⟩
    have:=(List.getElem?_eq_some_iff.1 e).1
    omega)
 rw[G];rcases H with ⟨rfl,a,f,c⟩|⟨B,rfl,c⟩
 have l:nmL s.data.toList=false:=by
  rw[← Bool.not_eq_true,zeA]
  rintro⟨_,p⟩
  obtain⟨d,e⟩:=List.mem_iff_getElem?.1 f
  have:=p d a e
  split at this
  rw[g01 this]at c;cases c
  rw[this]at c;cases c
 rw[l];rfl
 have l:nmL s.data.toList=true:=(zeA _).2 ⟨by omega,fun d a e=>by
  by_cases o:d=0
  subst o
  rw[q]at e
  cases e
  simpa using j
  rw[if_neg o]
  exact c d a e⟩
 rw[l];rfl}
end Go.Proofs.YtligccioljhapaaGreatDoor.M
namespace Go.Proofs.YtligccioljhapaaGreatDoor.M
open Go Go.Pu
set_option linter.unusedSimpArgs false
set_option linter.unusedVariables false
theorem qI{κ α:Type}[DecidableEq κ](l:List (κ×α))(k b:κ):zp (ZA l k) b=if k=b then none else zp l b:=by{
 unfold ZA;induction l with
 | nil=>simp[zp]
 | cons p l ih =>
  by_cases hp:p.1=k
  rw[List.filter_cons_of_neg (by simpa using hp),ih,zp]
  by_cases a:k=b
  rw[if_pos a,if_pos a]
  rw[if_neg a,if_neg a,if_neg (fun c=>a (hp.symm.trans c))]
  rw[List.filter_cons_of_pos (by simpa using hp),zp,zp,ih]
  by_cases a:k=b
  rw[if_pos a,if_pos a,if_neg (fun c=>hp (c.trans a.symm))]
  rw[if_neg a,if_neg a]}
noncomputable def puts(m:List (Int×Int))(ks:List Int)(t:Int):List (Int×Int):=ks.foldl (fun m k=>Qt m k t) m
noncomputable def dels(m:List (Int×Int))(ks:List Int):List (Int×Int):=ks.foldl (fun m k=>ZA m k) m
theorem qT(b:List Int)(t:Int)(m:List (Int×Int))(k:Int):zp (puts m b t) k=if k∈b then some t else zp m k:=by{
 induction b generalizing m with
 | nil=>rfl
 | cons a b ih =>
  show zp (puts (Qt m a t) b t) k=_
  rw[ih,JJ]
  by_cases d:k∈b
  rw[if_pos d,if_pos (List.mem_cons_of_mem _ d)]
  rw[if_neg d]
  by_cases c:a=k
  rw[if_pos c,if_pos (by rw[c];exact List.mem_cons_self)]
  rw[if_neg c,if_neg (fun e=>(List.mem_cons.1 e).elim (fun f=>c f.symm) d)]}
theorem zdT(b:List Int)(m:List (Int×Int))(k:Int):zp (dels m b) k=if k∈b then none else zp m k:=by{
 induction b generalizing m with
 | nil=>rfl
 | cons a b ih =>
  show zp (dels (ZA m a) b) k=_
  rw[ih,qI]
  by_cases d:k∈b
  rw[if_pos d,if_pos (List.mem_cons_of_mem _ d)]
  rw[if_neg d]
  by_cases c:a=k
  rw[if_pos c,if_pos (by rw[c];exact List.mem_cons_self)]
  rw[if_neg c,if_neg (fun e=>(List.mem_cons.1 e).elim (fun f=>c f.symm) d)]}
theorem zie(l:List Int)(v:Int):QI l v=some (match l.findIdx? (fun a=>v==a)with|some i=>(i:Int)|none => -1):=by{unfold QI;have:=zcn (α:=Int) l (fun a=>v==a);simp only[Option.bind_some]at this;rw[this];cases l.findIdx? (fun a=>v==a) <;> rfl}
theorem zgc(l:List Int)(v:Int):qC l v=some (decide (v∈l)):=by{
 unfold qC;rw[zie];cases h:l.findIdx? (fun f=>v==f) with
 | none =>
  have a:=List.findIdx?_eq_none_iff.1 h
  have:¬v∈l:=fun c=>by simpa using a v c
  rw[decide_eq_false this]
  rfl
 | some b =>
  obtain⟨a,d,_⟩:=List.findIdx?_eq_some_iff_getElem.1 h
  have:v∈l:=by
   have e:v=l[b]:=by simpa using d
   rw[e]
   exact List.getElem_mem a
  rw[decide_eq_true this,Option.bind_some]
  show some (decide ((0:Int)≤(b:Int)))=_
  rw[decide_eq_true (by omega)]}
theorem zdy(l:List Int)(v:Int):qw l v=some (decide (v∈l)):=by{
 unfold qw;rw[zeO l (fun a=>a==v) true];by_cases b:v∈l;have:l.any (fun a=>a==v)=true:=List.any_eq_true.2 ⟨v,b,by simp⟩;rw[this,decide_eq_true b];rfl
 have:l.any (fun a=>a==v)=false:=by
  rw[← Bool.not_eq_true,List.any_eq_true]
  rintro⟨a,c,d⟩
  exact b (by simpa [← (by simpa using d:a=v)]using c)
 rw[this,decide_eq_false b];rfl}
def Lst(l:List Int):Prop:=l.Pairwise (· < ·)∧∀m∈l,1≤m∧m≤1000
theorem zjG:∀(l:List Int) (a:Int),a≤1001→l.Pairwise (· < ·)→(∀b∈l,a≤b∧b≤1000)→(l.length:Int)≤1001-a
 | [],a,ha,_,_=>by simp;omega
 | x::l,a,ha,hp,hm=>by
  have h1:=hm x List.mem_cons_self
  have:=zjG l (x+1) (by omega) (List.pairwise_cons.1 hp).2 (fun b c=>⟨by have:=(List.pairwise_cons.1 hp).1 b c;omega,(hm b (List.mem_cons_of_mem _ c)).2⟩)
  rw[List.length_cons]
  omega
theorem Lst.len{l:List Int}(a:Lst l):l.length≤1000:=by{have:=zjG l 1 (by omega) a.1 a.2;omega}
theorem Lst.nil:Lst []:=⟨List.Pairwise.nil,fun b a=>by simp at a⟩
def srt(l:List Int):List Int:=l.mergeSort fun x y=>decide (x≤y)
theorem zbt(l:List Int):(srt l).Perm l:=List.mergeSort_perm _ _
theorem zaJ{l:List Int}{m:Int}:m∈srt l↔m∈l:=(zbt l).mem_iff
theorem zeF(l:List Int):(srt l).Pairwise (·≤·):=by{have a:=List.pairwise_mergeSort (le:=fun b c:Int=>decide (b≤c)) (fun d e h f g=>by simp only[decide_eq_true_eq]at *;omega) (fun d e=>by simp only[Bool.or_eq_true,decide_eq_true_eq];omega) l;exact a.imp fun a=>by simpa using a}
theorem zfX{l m:List Int}(hp:l.Perm m)(a:l.Pairwise (·≤·))(b:m.Pairwise (·≤·)):l=m :=
 List.Perm.eq_of_pairwise (le:=(·≤·)) (fun e f _ _ c d=>by omega) a b hp
theorem zhG{l:List Int}(a:l.Pairwise (· < ·)):l.Pairwise (·≤·):=a.imp fun a=>by omega
theorem zcf{l:List Int}(a:l.Pairwise (· < ·)):srt l=l:=zfX (zbt l) (zeF l) (zhG a)
theorem zkg{l:List Int}(b:l.Nodup)(c:∀a∈l,1≤a∧a≤1000):Lst (srt l):=by{refine⟨?_,fun a e=>c a (zaJ.1 e)⟩;have d:(srt l).Nodup:=(zbt l).nodup_iff.2 b;exact ((zeF l).and d).imp fun⟨f,g⟩=>by omega}
theorem Lst.nodup{l:List Int}(a:Lst l):l.Nodup:=a.1.imp fun a=>by omega
def insL(n:Int):List Int→List Int
 | []=>[n]
 | x::l=>if n<x then n::x::l else x::insL n l
theorem zgb(n:Int):∀l,(insL n l).Perm (n::l)
 | []=>List.Perm.refl _
 | x::l=>by
  rw[insL]
  split
  ·exact List.Perm.refl _
  ·exact ((zgb n l).cons x).trans (List.Perm.swap n x l)
theorem zks(n:Int):∀b:List Int,b.Pairwise (·≤·)→(insL n b).Pairwise (·≤·)
 | [],_=>by simp[insL]
 | x::b,h=>by
  have h1:=List.pairwise_cons.1 h
  rw[insL]
  split
  ·rename_i hx
   exact List.pairwise_cons.2 ⟨fun c a=>by
    rcases List.mem_cons.1 a with rfl|a
    ·omega
    ·have:=h1.1 c a;omega,h⟩
  ·rename_i hx
   refine List.pairwise_cons.2 ⟨fun c a=>?_,zks n b h1.2⟩
   rcases List.mem_cons.1 ((zgb n b).mem_iff.1 a)with rfl|a
   ·omega
   ·exact h1.1 c a
theorem zgR{l:List Int}(n:Int)(a:l.Pairwise (·≤·)):insL n l=srt (l++[n]) :=
 zfX ((zgb n l).trans ((List.perm_append_singleton n l).symm.trans (zbt _).symm)) (zks n l a) (zeF _)
theorem zeR{l:List Int}{n:Int}(x:l.length≤100000):QQ l n=some (insL n l):=by{
 unfold QQ
 have i:∀(d r:List Int),d.length≤200000→r.length≤200000→zE 17592186044416 d r=some (d++r):=fun d r y z=>by
  unfold zE;rw[if_pos (by omega)]
 have w:∀(e:List Int) (k:Nat) (a:List Int),a.length+e.length≤100001→
   forL (R:=List Int) (fun _ b (c:List Int×Bool)=>Option.bind (if ((!c.2)&&(decide (n<b)))=true then Option.bind (zE 17592186044416 c.1 ([n]:List Int)) fun j=>some (j,true) else some (c.1,c.2)) fun f=>Option.bind (zE 17592186044416 f.1 ([b]:List Int)) fun m=>some (.nx (m,f.2))) e k (a,true)=some (.fin (a++e,true)):=by
  intro e
  induction e with
  | nil=>intro k a _;rw[forL,List.append_nil]
  | cons b e ih =>
   intro k a p
   rw[List.length_cons]at p
   have q:zE 17592186044416 a [b]=some (a++[b]):=i _ _ (by omega) (by simp)
   simp only[forL,Bool.not_true,Bool.false_and,Bool.false_eq_true,if_false,Option.bind_some,q]
   rw[ih _ _ (by rw[List.length_append,List.length_singleton];omega),List.append_assoc]
   rfl
 have v:∀(e:List Int) (k:Nat) (a:List Int),a.length+e.length≤100000→∃d h,
   forL (R:=List Int) (fun _ b (c:List Int×Bool)=>Option.bind (if ((!c.2)&&(decide (n<b)))=true then Option.bind (zE 17592186044416 c.1 ([n]:List Int)) fun j=>some (j,true) else some (c.1,c.2)) fun f=>Option.bind (zE 17592186044416 f.1 ([b]:List Int)) fun m=>some (.nx (m,f.2))) e k (a,false)=some (.fin (d,h))∧(if h=true then d else d++[n])=a++insL n e∧d.length≤200000:=by
  intro e
  induction e with
  | nil=>intro k a p;exact⟨a,false,rfl,rfl,by simp at p;omega⟩
  | cons b e ih =>
   intro k a p
   rw[List.length_cons]at p
   by_cases g:n<b
   ·have q:zE 17592186044416 a [n]=some (a++[n]):=i _ _ (by omega) (by simp)
    have s:zE 17592186044416 (a++[n]) [b]=some (a++[n]++[b]):=i _ _ (by simp;omega) (by simp)
    refine⟨a++[n]++[b]++e,true,?_,?_,by simp;omega⟩
    ·simp only[forL,Bool.not_false,Bool.true_and,decide_eq_true g,if_true,Option.bind_some,q,s]
     rw[w _ _ _ (by simp;omega)]
    ·rw[if_pos rfl,insL,if_pos g]
     simp
   ·have s:zE 17592186044416 a [b]=some (a++[b]):=i _ _ (by omega) (by simp)
    obtain⟨d,h,t,o,u⟩:=ih (k+1) (a++[b]) (by simp;omega)
    refine⟨d,h,?_,?_,u⟩
    ·simp only[forL,Bool.not_false,Bool.true_and,decide_eq_false g,Bool.false_eq_true,if_false,Option.bind_some,s]
     exact t
    ·rw[o,insL,if_neg g]
     simp
 obtain⟨d,h,t,o,u⟩:=v l 0 [] (by simpa using x);rw[zev l (fun _ b (c:List Int×Bool)=>Option.bind (if ((!c.2)&&(decide (n<b)))=true then Option.bind (zE 17592186044416 c.1 ([n]:List Int)) fun j=>some (j,true) else some (c.1,c.2)) fun f=>Option.bind (zE 17592186044416 f.1 ([b]:List Int)) fun m=>some (.nx (m,f.2))) _ (fun k A b g=>by simp only[Jm,g,Option.bind_some]),t,Option.bind_some,Lp.andThen_fin];rw[List.nil_append]at o;cases h with
 | true=>simp only[Bool.not_true,Bool.false_eq_true,if_false,Option.bind_some];rw[← o];rfl
 | false =>
  have q:zE 17592186044416 d [n]=some (d++[n]):=i _ _ u (by simp)
  simp only[Bool.not_false,if_true,Option.bind_some,q]
  rw[← o]
  rfl}
theorem zfb{α:Type}(l:List α)(z:α):jL (List.replicate l.length z) l=l:=by{unfold jL;simp}
theorem zeu{l:List Int}(b:l.length≤100000):jd l=some l:=by{
 unfold jd;by_cases a:l.length=0;rw[if_pos (by simpa using a),List.eq_nil_of_length_eq_zero a];have:(l.length:Int)≠0:=by omega
 rw[if_neg (by simpa using this),ji,if_pos (by omega),Option.bind_some,Int.toNat_natCast,zfb]}
theorem zjV{l:List api_Value}(b:l.length≤100000):ja l=some l:=by{
 unfold ja;by_cases a:l.length=0;rw[if_pos (by simpa using a),List.eq_nil_of_length_eq_zero a];have:(l.length:Int)≠0:=by omega
 rw[if_neg (by simpa using this),ji,if_pos (by omega),Option.bind_some,Int.toNat_natCast,zfb]}
theorem zck{s:za}(a:s.values.length≤100000)(b:s.messages.length≤100000)(c:s.notes.length≤100000):Qq s=some s:=by{unfold Qq;rw[zjV a,zeu b,zeu c];rfl}
theorem zfa{s:za}(a:s.values.length≤100000)(b:s.messages.length≤100000)(c:s.notes.length≤100000):zaf s=some s:=by{unfold zaf zE;rw[if_pos (by simp;omega),if_pos (by simp;omega),if_pos (by simp;omega)];rfl}
theorem zkJ{a b:List Int}(m:a.length+b.length≤100000):jk [a,b]=some (a++b):=by{
 unfold jk;have c:w64 (0+(a.length:Int))=(a.length:Int):=by rw[ZB (by omega) (by omega)];omega
 have d:w64 ((a.length:Int)+(b.length:Int))=(a.length:Int)+(b.length:Int):=ZB (by omega) (by omega);have e:decide ((a.length:Int)<0)=false:=decide_eq_false (by omega);have f:decide ((a.length:Int)+(b.length:Int)<0)=false:=decide_eq_false (by omega);have g:idx [a,b] ((0:Nat):Int)=some a:=rfl;have h:idx [a,b] ((1:Nat):Int)=some b:=rfl
 have l:jB (α:=Int) ((a.length:Int)+(b.length:Int))=some []:=by
  unfold jB;rw[if_pos (by omega)]
 have i:zE 17592186044416 ([]:List Int) a=some a:=by unfold zE;rw[if_pos (by simp;omega)];rfl
 have j:zE 17592186044416 a b=some (a++b):=by unfold zE;rw[if_pos (by omega)]
 have l2 : [a,b].length=2:=rfl;rw[l2];simp only[zG,Nat.zero_add,g,h,Option.bind_some,c,d,e,f,Bool.false_eq_true,if_false,Lp.andThen_fin,l,i,j]}
end Go.Proofs.YtligccioljhapaaGreatDoor.M
namespace Go.Proofs.YtligccioljhapaaGreatDoor.M
open Go Go.Pu
set_option linter.unusedSimpArgs false
set_option linter.unusedVariables false
theorem zhs(a b:ByteArray):Zw a b=Zw b a:=by{unfold Zw;exact BEq.comm}
theorem zix(l:List ByteArray)(v:ByteArray):ZX l v=some (l.any fun a=>Zw v a):=by{unfold ZX jf;have:=zcn (α:=ByteArray) l (fun a=>Zw v a);simp only[Option.bind_some]at this;rw[this, ← zgB];cases l.findIdx? (fun a=>Zw v a) <;> rfl}
theorem zmw(l:List ByteArray)(v:ByteArray):zat l v=some (l.any fun a=>Zw v a):=by{
 unfold zat;rw[zeO l (fun a=>Zw a v) true];have:(l.any fun a=>Zw a v)=l.any fun a=>Zw v a:=by congr 1;funext a;exact zhs _ _
 rw[this];cases l.any fun a=>Zw v a <;> rfl}
theorem zin(l:List zF)(x:zF):ZC l (fun a=>QM a x)=some (l.any fun a=>Zw a.name x.name):=by{
 unfold ZC qL QM;have:=zcn (α:=zF) l (fun a=>Zw x.name a.name);rw[this];have b:=zgB l (fun a=>Zw x.name a.name);have:(l.any fun a=>Zw a.name x.name)=l.any fun a=>Zw x.name a.name:=by congr 1;funext a;exact zhs _ _
 rw[this, ← b];cases l.findIdx? (fun a=>Zw x.name a.name) <;> rfl}
theorem zkI{α:Type}{s:List α}{k:Nat}(a:k≤s.length):jE s none (some (k:Int))=some (s.take k):=by{unfold jE zfI;simp only[Option.getD_some,Option.getD_none];rw[if_pos (by omega)];simp}
theorem zmm(l:List ByteArray)(r:∀s∈l,s.size≤9223372036854775807):∃a:Lp Unit Int,
  zG (fun f (_:Unit)=>Option.bind (idx l (f:Int)) fun g=>Option.bind (jZ g) fun m=>if (!m)=true then some (.rt (3:Int)) else Option.bind (jE l none (some (f:Int))) fun n=>Option.bind (ZX n g) fun o=>if o=true then some (.rt 6) else some (.nx ())) l.length 0 ()=some a∧
  zG (fun d (_:Unit)=>Option.bind (idx l (d:Int)) fun e=>Option.bind (jg e) fun h=>if (!h)=true then some (.rt (3:Int)) else Option.bind (jE l none (some (d:Int))) fun i=>Option.bind (zat i e) fun j=>if j=true then some (.rt 6) else some (.nx ())) l.length 0 ()=some a∧
  (a=.fin ()∨a=.rt 3∨a=.rt 6):=by{
 rcases zhz (R:=Int) (b:=fun f (_:Unit)=>Option.bind (idx l (f:Int)) fun g=>Option.bind (jZ g) fun m=>if (!m)=true then some (.rt (3:Int)) else Option.bind (jE l none (some (f:Int))) fun n=>Option.bind (ZX n g) fun o=>if o=true then some (.rt 6) else some (.nx ()))
  (b':=fun d (_:Unit)=>Option.bind (idx l (d:Int)) fun e=>Option.bind (jg e) fun h=>if (!h)=true then some (.rt (3:Int)) else Option.bind (jE l none (some (d:Int))) fun i=>Option.bind (zat i e) fun j=>if j=true then some (.rt 6) else some (.nx ()))
  l.length (fun a=>a=3∨a=6) (fun _ _ _=>True) (s:=()) (s':=()) trivial
  (fun k w v p _=>by
   simp only[ZP _ _ p,Option.bind_some,zji _ (r _ (List.getElem_mem p)),zhc,zkI (Nat.le_of_lt p),zix,zmw]
   by_cases b:(!(nmL (l[k]).data.toList&&decide (((l[k]).size:Int)≤20)))=true
   ·rw[if_pos b]
    exact .inl ⟨3,rfl,rfl,.inl rfl⟩
   ·rw[if_neg b]
    by_cases c:((l.take k).any fun u=>Zw l[k] u)=true
    ·rw[if_pos c]
     exact .inl ⟨6,rfl,rfl,.inr rfl⟩
    ·rw[if_neg c]
     exact .inr ⟨(),(),rfl,rfl,trivial⟩)with ⟨a,b,c,h3⟩|⟨t,t',b,c,_⟩
 exact⟨.rt a,b,c,h3.elim (fun q=>.inr (.inl (by rw[q]))) fun q=>.inr (.inr (by rw[q]))⟩;exact⟨.fin (),b,c,.inl rfl⟩}
def zfJ(f:zr):Prop:=∀x∈f.fields,x.name.size≤9223372036854775807∧∀o∈x.options,o.size≤9223372036854775807
theorem ziR(f:zr)(M:zfJ f):∃v,QO f=some v∧zda f=some v∧(v=0→f.fields.length≤20∧∀A∈f.fields,A.options.length≤20):=by{
 unfold QO zda;by_cases l:(20:Int)<(f.fields.length:Int);rw[if_pos (decide_eq_true l),if_pos (decide_eq_true l)];exact⟨4,rfl,rfl,fun e=>by cases e⟩;rw[if_neg (by simpa using l),if_neg (by simpa using l)]
 rcases zhz (R:=Int) (b:=fun j (_:Unit)=>Option.bind (idx f.fields (j:Int)) fun a=>Option.bind (jZ a.name) fun q=>if (!q)=true then some (.rt 3) else Option.bind (jE f.fields none (some (j:Int))) fun m=>Option.bind (ZC m (fun G=>QM G a)) fun H=>if H=true then some (.rt 6) else if (!(zt a.kind 1 6))=true then some (.rt 10) else Option.bind (jQ a) fun y=>if (y != 0)=true then some (.rt y) else if (!(zt a.needs 0 6))=true then some (.rt 2) else some (.nx ()))
  (b':=fun j (_:Unit)=>Option.bind (idx f.fields (j:Int)) fun a=>Option.bind (jg a.name) fun q=>if (!q)=true then some (.rt 3) else Option.bind (jE f.fields none (some (j:Int))) fun m=>Option.bind (zG (fun I _=>Option.bind (idx m (I:Int)) fun J=>if (Zw J.name a.name)=true then some (.rt 6) else some (.nx ())) m.length 0 ()) fun K=>K.andThen (fun g=>some (.rt g)) fun T=>if (!(zR a.kind 1 6))=true then some (.rt 10) else if (!((a.kind==4)==(decide ((0:Int)<(a.options.length:Int)))))=true then some (.rt 1) else if (decide ((20:Int)<(a.options.length:Int)))=true then some (.rt 4) else Option.bind (zG (fun w _=>Option.bind (idx a.options (w:Int)) fun x=>Option.bind (jg x) fun B=>if (!B)=true then some (.rt 3) else Option.bind (jE a.options none (some (w:Int))) fun D=>Option.bind (zat D x) fun E=>if E=true then some (.rt 6) else some (.nx ())) a.options.length 0 ()) fun F=>F.andThen (fun g=>some (.rt g)) fun S=>if (!(zR a.needs 0 6))=true then some (.rt 2) else some (.nx ()))
  f.fields.length (fun p=>p≠0) (fun k _ _=>∀d (h:d<f.fields.length),d<k→(f.fields[d]).options.length≤20) (s:=()) (s':=()) (fun d h e=>absurd e (Nat.not_lt_zero _))
  (fun k W U r s=>by
   obtain⟨N,O⟩:=M _ (List.getElem_mem r)
   obtain⟨p,P,Q,o3⟩:=zmm _ O
   simp only[ZP _ _ r,Option.bind_some,zji _ N,zhc (f.fields[k]).name,zkI (Nat.le_of_lt r),zin]
   rw[zeO (List.take k f.fields) (fun g=>Zw g.name (f.fields[k]).name) (6:Int)]
   by_cases b:(!(nmL (f.fields[k]).name.data.toList&&decide (((f.fields[k]).name.size:Int)≤20)))=true
   ·rw[if_pos b,if_pos b]
    exact .inl ⟨3,rfl,rfl,by omega⟩
   rw[if_neg b,if_neg b]
   by_cases c:((f.fields.take k).any fun g=>Zw g.name (f.fields[k]).name)=true
   ·rw[if_pos c,if_pos c]
    exact .inl ⟨6,rfl,rfl,by omega⟩
   rw[if_neg c,if_neg c]
   simp only[Option.bind_some,Lp.andThen_fin]
   by_cases i:(!(zt (f.fields[k]).kind 1 6))=true
   ·rw[if_pos i,if_pos (show (!(zR (f.fields[k]).kind 1 6))=true from i)]
    exact .inl ⟨10,rfl,rfl,by omega⟩
   rw[if_neg i,if_neg (show ¬(!(zR (f.fields[k]).kind 1 6))=true from i)]
   unfold jQ
   by_cases n:(!(((f.fields[k]).kind==4)==(decide ((0:Int)<((f.fields[k]).options.length:Int)))))=true
   ·rw[if_pos n,if_pos n]
    exact .inl ⟨1,rfl,rfl,by omega⟩
   rw[if_neg n,if_neg n]
   by_cases u:(20:Int)<((f.fields[k]).options.length:Int)
   ·rw[if_pos (decide_eq_true u),if_pos (decide_eq_true u)]
    exact .inl ⟨4,rfl,rfl,by omega⟩
   have z:¬(decide ((20:Int)<((f.fields[k]).options.length:Int)))=true:=by simpa using u
   rw[if_neg z,if_neg z,P,Q]
   rcases o3 with rfl|rfl|rfl
   ·simp only[Option.bind_some,Lp.andThen_fin]
    rw[if_neg (by simp)]
    by_cases o:(!(zt (f.fields[k]).needs 0 6))=true
    ·rw[if_pos o,if_pos (show (!(zR (f.fields[k]).needs 0 6))=true from o)]
     exact .inl ⟨2,rfl,rfl,by omega⟩
    ·rw[if_neg o,if_neg (show ¬(!(zR (f.fields[k]).needs 0 6))=true from o)]
     refine .inr ⟨(),(),rfl,rfl,fun d h L=>?_⟩
     rcases Nat.lt_or_eq_of_le (Nat.le_of_lt_succ L)with e|rfl
     ·exact s d h e
     ·omega
   ·exact .inl ⟨3,rfl,rfl,by omega⟩
   ·exact .inl ⟨6,rfl,rfl,by omega⟩)with ⟨p,b,c,i⟩|⟨t,t',b,c,s⟩
 rw[b,c];exact⟨p,rfl,rfl,fun e=>absurd e i⟩;rw[b,c];refine⟨0,rfl,rfl,fun _=>⟨by omega,fun A R=>?_⟩⟩;obtain⟨d,h,rfl⟩:=List.mem_iff_getElem.1 R;exact s d h h}
theorem zjY{l:List ByteArray}(b:l.length≤100000):QU l=some l:=by{
 unfold QU;by_cases a:l.length=0;rw[if_pos (by simpa using a),List.eq_nil_of_length_eq_zero a];have:(l.length:Int)≠0:=by omega
 rw[if_neg (by simpa using this),ji,if_pos (by omega),Option.bind_some,Int.toNat_natCast,zfb]}
theorem zjT{l:List zF}(b:l.length≤100000):QY l=some l:=by{
 unfold QY;by_cases a:l.length=0;rw[if_pos (by simpa using a),List.eq_nil_of_length_eq_zero a];have:(l.length:Int)≠0:=by omega
 rw[if_neg (by simpa using this),ji,if_pos (by omega),Option.bind_some,Int.toNat_natCast,zfb]}
theorem zjq{α:Type}{l:List α}{k:Nat}(a:k<l.length):l.set k l[k]=l:=by{apply List.ext_getElem?;intro b;rw[List.getElem?_set];split;rename_i e;subst e;rw[List.getElem?_eq_getElem a];rfl}
theorem zho{f:zr}(o:f.fields.length≤20)(i:∀m∈f.fields,m.options.length≤20):Jx f=some f:=by{
 unfold Jx;rw[zjT (by omega),Option.bind_some]
 obtain⟨p,j,rfl⟩:=qb (R:=zr) (b:=fun c (d:zr)=>Option.bind (idx d.fields (c:Int)) fun e=>Option.bind (QU e.options) fun g=>Option.bind (setI d.fields (c:Int) ({ (e:zF)with options:=g })) fun h=>some (.nx (⟨h⟩:zr)))
  f.fields.length (fun _ a=>a=f) (s:=(⟨f.fields⟩:zr)) rfl
  (fun k a b n=>by
   subst n
   refine⟨a,?_,rfl⟩
   have l:=i _ (List.getElem_mem b)
   simp only[ZP _ _ b,Option.bind_some,zjY (Nat.le_trans l (by omega))]
   rw[setI,if_pos (by simp only[Int.toNat_natCast];omega),Option.bind_some,Int.toNat_natCast]
   show some (Ctl.nx (⟨a.fields.set k a.fields[k]⟩:zr))=_
   rw[zjq b])
 rw[j];rfl}
end Go.Proofs.YtligccioljhapaaGreatDoor.M
