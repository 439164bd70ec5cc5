import Derived.Test.YtdpmeckhhcjoiaaGreatDoorPu
import Derived.Lib.SlTrimSet
namespace Go.Proofs.YtdpmeckhhcjoiaaGreatDoor.M
open Go Go.Pu
set_option linter.unusedVariables false
set_option linter.unusedSimpArgs false
structure zm where
 name:ByteArray
 rank:Int
structure ze where
 no:Int
 capacity:Int
 calendar:Int
 skills:(List zm)
structure ZE where
 at_:Int
 offset:Int
structure Zy where
 offset:Int
 changes:(List ZE)
structure zK where
 day:Int
 from_:Int
 to_:Int
structure Zb where
 day:Int
 shifts:(List zK)
structure zi where
 zone:Zy
 week:(List zK)
 specials:(List Zb)
structure zt where
 after:Int
 lower:Int
 any:Bool
structure qZ where
 people:(List ze)
 cals:(List zi)
 steps:(List zt)
 away:(List Bool)
structure za where
 ticket:Int
 weight:Int
 urgency:Int
 since:Int
 former:Int
 needs:(List zm)
structure zb where
 ticket:Int
 person:Int
 weight:Int
 since:Int
structure zl where
 assigner:qZ
 now:Int
 waiting:(List za)
 held:(List zb)
 work:(List (Int×za))
structure zB where
 d:Int
 steps:(List zt)
 now:Int
 held:(List zb)
 waiting:(List za)
 works:(List (Int×za))
structure zR where
 people:(List ze)
 clocks:(List zi)
 away:(List (Int×Bool))
structure JE where
 clocks:(List zi)
structure Zz where
 people:(List ze)
 duty:(List Bool)
 weights:(List Int)
 latest:(List Int)
structure zT where
 from_:Int
 to_:Int
structure Zr where
 from_:Int
 to_:Int
 offset:Int
structure ZO where
 r:zB
 d:zR
def zw(n:Int)(b:Int)(a:Int):Bool :=
 ((decide (b≤n))&&(decide (n≤a)))
noncomputable def zaF(s:ByteArray):Option Bool :=
 Option.bind (Jr (fun b=>if (decide (b<(s.size:Int)))=true then Option.bind (idxS s b) fun a=>if (((!((decide ((97:Int)≤(a.toNat:Int)))&&(decide ((a.toNat:Int)≤122))))&&(!((decide ((48:Int)≤(a.toNat:Int)))&&(decide ((a.toNat:Int)≤57)))))&&((a.toNat:Int) != 95))=true then some (.rt false) else some (.nx (w64 (b+1))) else some (.bk b)) 0) fun c=>c.andThen (fun d=>some d) fun e =>
 some ((!(qi s (⟨#[]⟩:ByteArray)))&&(decide ((s.size:Int)≤20)))
noncomputable def Qq(l:(List zm)):Option Int :=
 if (decide ((12:Int)<(l.length:Int)))=true then
  some 4
 else
  Option.bind (zS (fun b _=>Option.bind (idx l (b:Int)) fun a=>Option.bind (zaF a.name) fun d=>if (!d)=true then some (.rt 3) else Option.bind (if (decide ((0:Int)<(b:Int)))=true then (Option.bind (idx l (w64 ((b:Int)-1))) fun c=>some (zfA a.name c.name||qi a.name c.name)) else (some false)) fun e=>if e=true then some (.rt 5) else if (!(zw a.rank 1 9))=true then some (.rt 2) else some (.nx ())) l.length 0 ()) fun o4=>o4.andThen (fun f=>some f) fun g =>
  some 0
noncomputable def jG(l:(List ze)):Option Int :=
 if (decide ((40:Int)<(l.length:Int)))=true then
  some 4
 else
  Option.bind (zS (fun b _=>Option.bind (idx l (b:Int)) fun a=>if (!(zw a.no 1 40))=true then some (.rt 2) else Option.bind (if (decide ((0:Int)<(b:Int)))=true then (Option.bind (idx l (w64 ((b:Int)-1))) fun d=>some (decide (a.no≤d.no))) else (some false)) fun e=>if e=true then some (.rt 5) else if ((!(zw a.capacity 0 100))||(!(zw a.calendar 0 19)))=true then some (.rt 2) else Option.bind (Qq a.skills) fun c=>if (c != 0)=true then some (.rt c) else some (.nx ())) l.length 0 ()) fun o4=>o4.andThen (fun f=>some f) fun g =>
  some 0
def Zo(n:Int)(b:Int)(a:Int):Bool :=
 ((decide (b≤n))&&(decide (n≤a)))
def zbE(z:Zy):Option Int :=
 if (!(Zo z.offset (-1440) 1440))=true then
  some 2
 else
  if (decide ((60:Int)<(z.changes.length:Int)))=true then
   some 4
  else
   Option.bind (zS (fun c b=>Option.bind (idx z.changes (c:Int)) fun a=>if ((!(Zo a.at_ 1 3000000))||(!(Zo a.offset (-1440) 1440)))=true then some (.rt 2) else if (decide (a.at_≤b.1))=true then some (.rt 5) else if (a.offset==b.2)=true then some (.rt 1) else some (.nx (a.at_,a.offset))) z.changes.length 0 (0,z.offset)) fun o24=>o24.andThen (fun d=>some d) fun e =>
   some 0
def Ju(x:Int):Bool :=
 x != x
def zh(x:Int)(y:Int):Int :=
 if (Ju x)=true then
  if (Ju y)=true then
   0
  else
   (-1)
 else
  if (Ju y)=true then
   1
  else
   if (decide (x<y))=true then
    (-1)
   else
    if (decide (y<x))=true then
     1
    else
     0
def JA(a:(List Int)):Option Int :=
 Option.bind (zS (fun c _=>Option.bind (idx a (c:Int)) fun b=>if (b != 0)=true then some (.rt b) else some (.nx ())) a.length 0 ()) fun o3=>o3.andThen (fun d=>some d) fun e =>
 some 0
def zfJ(a:zK)(b:zK):Option Bool :=
 Option.bind (JA ([(zh a.day b.day),(zh a.from_ b.from_),(zh a.to_ b.to_)]:List Int)) fun c =>
 some (decide ((0:Int)<c))
def zaR(l:(List zK))(c:Bool):Option Int :=
 Option.bind (zS (fun b _=>Option.bind (idx l (b:Int)) fun a=>if (c&&(a.day != 0))=true then some (.rt 1) else if ((((!(Zo a.day 0 6))||(!(Zo a.from_ 0 1439)))||(decide (a.to_≤a.from_)))||(decide ((w64 (a.from_+1440))<a.to_)))=true then some (.rt 2) else Option.bind (if (decide ((0:Int)<(b:Int)))=true then (Option.bind (idx l (w64 ((b:Int)-1))) fun d=>Option.bind (zfJ a d) fun e=>some (!e)) else (some false)) fun f=>if f=true then some (.rt 5) else some (.nx ())) l.length 0 ()) fun o3=>o3.andThen (fun g=>some g) fun h =>
 some 0
def ZY(c:zi):Option Int :=
 Option.bind (zbE c.zone) fun e =>
 if (e != 0)=true then
  some e
 else
  if ((decide ((60:Int)<(c.week.length:Int)))||(decide ((200:Int)<(c.specials.length:Int))))=true then
   some 4
  else
   Option.bind (zaR c.week false) fun f =>
   if (f != 0)=true then
    some f
   else
    Option.bind (zS (fun b _=>Option.bind (idx c.specials (b:Int)) fun a=>if (!(Zo a.day (-1) 2084))=true then some (.rt 2) else Option.bind (if (decide ((0:Int)<(b:Int)))=true then (Option.bind (idx c.specials (w64 ((b:Int)-1))) fun g=>some (decide (a.day≤g.day))) else (some false)) fun h=>if h=true then some (.rt 5) else if (decide ((12:Int)<(a.shifts.length:Int)))=true then some (.rt 4) else Option.bind (zaR a.shifts true) fun d=>if (d != 0)=true then some (.rt d) else some (.nx ())) c.specials.length 0 ()) fun i=>i.andThen (fun j=>some j) fun k =>
    some 0
noncomputable def jN(people:(List ze))(cals:(List zi)):Option Int :=
 Option.bind (jG people) fun c =>
 if (c != 0)=true then
  some c
 else
  if (decide ((20:Int)<(cals.length:Int)))=true then
   some 4
  else
   Option.bind (zS (fun d _=>Option.bind (idx cals (d:Int)) fun e=>Option.bind (ZY e) fun b=>if (b != 0)=true then some (.rt b) else some (.nx ())) cals.length 0 ()) fun f=>f.andThen (fun a=>some a) fun j =>
   Option.bind (zS (fun g _=>Option.bind (idx people (g:Int)) fun h=>if (decide ((cals.length:Int)≤h.calendar))=true then some (.rt 7) else some (.nx ())) people.length 0 ()) fun i=>i.andThen (fun a=>some a) fun k =>
   some 0
def jT(l:(List zt)):Option Int :=
 if (decide ((8:Int)<(l.length:Int)))=true then
  some 4
 else
  Option.bind (zS (fun b _=>Option.bind (idx l (b:Int)) fun a=>if ((!(zw a.after 1 3000000))||(!(zw a.lower 0 9)))=true then some (.rt 2) else Option.bind (if (decide ((0:Int)<(b:Int)))=true then (Option.bind (idx l (w64 ((b:Int)-1))) fun c=>some (decide (a.after≤c.after))) else (some false)) fun d=>if d=true then some (.rt 5) else some (.nx ())) l.length 0 ()) fun o4=>o4.andThen (fun e=>some e) fun f =>
  some 0
def Qb(s:(List ze)):Option (List ze) :=
 Option.bind (zC 2932031007402 ([]:List ze) s) fun a =>
 some a
def zJ(s:(List zm)):Option (List zm) :=
 Option.bind (zC 5864062014805 ([]:List zm) s) fun a =>
 some a
def qP(s:(List ZE)):Option (List ZE) :=
 Option.bind (zC 8796093022208 ([]:List ZE) s) fun a =>
 some a
def Zp(s:(List zK)):Option (List zK) :=
 Option.bind (zC 5864062014805 ([]:List zK) s) fun a =>
 some a
def qI(s:(List Zb)):Option (List Zb) :=
 Option.bind (zC 4398046511104 ([]:List Zb) s) fun a =>
 some a
def QD(s:(List zt)):Option (List zt) :=
 Option.bind (zC 5864062014805 ([]:List zt) s) fun a =>
 some a
noncomputable def JT(people:(List ze))(cals:(List zi))(steps:(List zt)):Option ((Option zl)×Int) :=
 Option.bind (jN people cals) fun n =>
 if (n != 0)=true then
  some (none,n)
 else
  Option.bind (jT steps) fun j =>
  if (j != 0)=true then
   some (none,j)
  else
   Option.bind (Qb people) fun k =>
   Option.bind (zS (fun l a=>Option.bind (idx a.assigner.people (l:Int)) fun m=>Option.bind (zJ m.skills) fun o=>Option.bind (setI a.assigner.people (l:Int) ({ (m:ze)with skills:=o })) fun p=>some (.nx (⟨(⟨p,a.assigner.cals,a.assigner.steps,a.assigner.away⟩:qZ),a.now,a.waiting,a.held,a.work⟩:zl))) k.length 0 (⟨(⟨k,([]:(List zi)),([]:(List zt)),([]:(List Bool))⟩:qZ),0,([]:(List za)),([]:(List zb)),([]:List (Int×za))⟩:zl)) fun B=>B.andThen (fun d=>some d) fun D =>
   Option.bind (zS (fun q b=>Option.bind (idx cals (q:Int)) fun e=>Option.bind (qP e.zone.changes) fun r=>Option.bind (Zp e.week) fun s=>Option.bind (qI e.specials) fun g=>Option.bind (zS (fun h f=>Option.bind (idx f.specials (h:Int)) fun i=>Option.bind (Zp i.shifts) fun t=>Option.bind (setI f.specials (h:Int) ({ (i:Zb)with shifts:=t })) fun u=>some (.nx (⟨f.zone,f.week,u⟩:zi))) g.length 0 (⟨(⟨e.zone.offset,r⟩:Zy),s,g⟩:zi)) fun v=>v.andThen (fun d=>some (.rt d)) fun w=>Option.bind (zC 1759218604441 b.assigner.cals ([w]:List zi)) fun x=>some (.nx (⟨(⟨b.assigner.people,x,b.assigner.steps,b.assigner.away⟩:qZ),b.now,b.waiting,b.held,b.work⟩:zl))) cals.length 0 D) fun y=>y.andThen (fun d=>some d) fun c =>
   Option.bind (QD steps) fun z =>
   Option.bind (JS 281474976710656 (people.length:Int) (false:Bool)) fun A =>
   some (some (⟨(⟨c.assigner.people,c.assigner.cals,z,A⟩:qZ),c.now,c.waiting,c.held,c.work⟩:zl),0)
def zdP(s:ByteArray)(a:ByteArray):Option ByteArray :=
 if s.size≤9223372036854775807∧a.size<4294967281∧(a.data.toList.all fun b=>decide (b.toNat<128))=true then some ⟨(Go.Lib.trimS s.data.toList a.data.toList).toArray⟩ else none
def zbz(s:ByteArray):Option Bool :=
 Option.bind (if (decide ((1:Int)≤(s.size:Int)))=true then (if (decide ((s.size:Int)≤20))=true then (Option.bind (zdP s (⟨#[97,98,99,100,101,102,103,104,105,106,107,108,109,110,111,112,113,114,115,116,117,118,119,120,121,122,48,49,50,51,52,53,54,55,56,57,95]⟩:ByteArray)) fun a=>some (qi a (⟨#[]⟩:ByteArray))) else (some false)) else (some false)) fun b =>
 some b
def jn(l:(List zm)):Option Int :=
 if (decide ((12:Int)<(l.length:Int)))=true then
  some 4
 else
  Option.bind (zS (fun b _=>Option.bind (idx l (b:Int)) fun a=>Option.bind (zbz a.name) fun d=>if (!d)=true then some (.rt 3) else Option.bind (if (decide ((0:Int)<(b:Int)))=true then (Option.bind (idx l (w64 ((b:Int)-1))) fun c=>some (zfA a.name c.name||qi a.name c.name)) else (some false)) fun e=>if e=true then some (.rt 5) else if ((decide (a.rank<1))||(decide ((9:Int)<a.rank)))=true then some (.rt 2) else some (.nx ())) l.length 0 ()) fun o4=>o4.andThen (fun f=>some f) fun g =>
  some 0
def zaw(l:(List ze)):Option Int :=
 if (decide ((40:Int)<(l.length:Int)))=true then
  some 4
 else
  Option.bind (zS (fun b _=>Option.bind (idx l (b:Int)) fun a=>if ((decide (a.no<1))||(decide ((40:Int)<a.no)))=true then some (.rt 2) else Option.bind (if (decide ((0:Int)<(b:Int)))=true then (Option.bind (idx l (w64 ((b:Int)-1))) fun d=>some (decide (a.no≤d.no))) else (some false)) fun e=>if e=true then some (.rt 5) else if ((((decide (a.capacity<0))||(decide ((100:Int)<a.capacity)))||(decide (a.calendar<0)))||(decide ((20:Int)≤a.calendar)))=true then some (.rt 2) else Option.bind (jn a.skills) fun c=>if (c != 0)=true then some (.rt c) else some (.nx ())) l.length 0 ()) fun o4=>o4.andThen (fun f=>some f) fun g =>
  some 0
def qm(n:Int):Bool :=
 ((decide (n<(-1440)))||(decide ((1440:Int)<n)))
def zbw(z:Zy):Option Int :=
 if (qm z.offset)=true then
  some 2
 else
  if (decide ((60:Int)<(z.changes.length:Int)))=true then
   some 4
  else
   Option.bind (zS (fun b c=>Option.bind (idx z.changes (b:Int)) fun a=>Option.bind (if (decide (a.at_<1))=true then (some true) else (if (decide ((3000000:Int)<a.at_))=true then (some true) else (some (qm a.offset)))) fun d=>if d=true then some (.rt 2) else Option.bind (if (decide ((0:Int)<(b:Int)))=true then (Option.bind (idx z.changes (w64 ((b:Int)-1))) fun e=>some (decide (a.at_≤e.at_))) else (some false)) fun f=>if f=true then some (.rt 5) else if (a.offset==c)=true then some (.rt 1) else some (.nx a.offset)) z.changes.length 0 z.offset) fun g=>g.andThen (fun h=>some h) fun i =>
   some 0
def Ji(l:(List zK))(e:Bool):Option Int :=
 Option.bind (zS (fun d _=>Option.bind (α:=Lp _ _) (Option.bind (idx l (d:Int)) fun a=>if ((!e)&&(a.day != 0))=true then some (.rt 1) else if ((((((decide (a.day<0))||(decide ((6:Int)<a.day)))||(decide (a.from_<0)))||(decide ((1440:Int)≤a.from_)))||(decide (a.to_≤a.from_)))||(decide ((w64 (a.from_+1440))<a.to_)))=true then some (.rt 2) else Option.bind (α:=Lp _ _) (if (decide ((0:Int)<(d:Int)))=true then Option.bind (idx l (w64 ((d:Int)-1))) fun c=>Option.bind (JA ([(zh c.day a.day),(zh c.from_ a.from_),(zh c.to_ a.to_)]:List Int)) fun f=>if (decide ((0:Int)≤f))=true then some (.rt 5) else some (.fin ()) else some (.fin ())) fun g=>g.andThen (fun b=>some (.rt b)) fun h=>some (.fin ())) fun o25=>o25.andThen (fun b=>some (.rt b)) fun i=>some (.nx ())) l.length 0 ()) fun o3=>o3.andThen (fun b=>some b) fun j =>
 some 0
def QV(c:zi):Option Int :=
 Option.bind (zbw c.zone) fun e =>
 if (e != 0)=true then
  some e
 else
  if ((decide ((60:Int)<(c.week.length:Int)))||(decide ((200:Int)<(c.specials.length:Int))))=true then
   some 4
  else
   Option.bind (Ji c.week true) fun f =>
   if (f != 0)=true then
    some f
   else
    Option.bind (zS (fun b _=>Option.bind (idx c.specials (b:Int)) fun a=>if ((decide (a.day<(-1)))||(decide ((2084:Int)<a.day)))=true then some (.rt 2) else Option.bind (if (decide ((0:Int)<(b:Int)))=true then (Option.bind (idx c.specials (w64 ((b:Int)-1))) fun g=>some (decide (a.day≤g.day))) else (some false)) fun h=>if h=true then some (.rt 5) else if (decide ((12:Int)<(a.shifts.length:Int)))=true then some (.rt 4) else Option.bind (Ji a.shifts false) fun d=>if (d != 0)=true then some (.rt d) else some (.nx ())) c.specials.length 0 ()) fun i=>i.andThen (fun j=>some j) fun k =>
    some 0
def zcC(cals:(List zi))(b:Int):Option Int :=
 if (decide (b<(cals.length:Int)))=true then
  some 4
 else
  Option.bind (zS (fun d _=>Option.bind (idx cals (d:Int)) fun c=>Option.bind (QV c) fun a=>if (a != 0)=true then some (.rt a) else some (.nx ())) cals.length 0 ()) fun o4=>o4.andThen (fun e=>some e) fun f =>
  some 0
def ZC(s:(List ze))(f:ze→Option Bool):Option Int :=
 Option.bind (zS (fun a _=>Option.bind (idx s (a:Int)) fun b=>Option.bind (f b) fun c=>if c=true then some (.rt (a:Int)) else some (.nx ())) s.length 0 ()) fun o3=>o3.andThen (fun d=>some d) fun e =>
 some (-1)
def Qk(s:(List ze))(f:ze→Option Bool):Option Bool :=
 Option.bind (ZC s f) fun a =>
 some (decide ((0:Int)≤a))
def zaC(b:ze)(a:(List zi)):Option Bool :=
 some (decide ((a.length:Int)≤b.calendar))
def zbt(people:(List ze))(cals:(List zi)):Option Int :=
 Option.bind (zaw people) fun a =>
 if (a != 0)=true then
  some a
 else
  Option.bind (zcC cals 20) fun b =>
  if (b != 0)=true then
   some b
  else
   Option.bind (Qk people (fun c=>zaC c cals)) fun d =>
   if d=true then
    some 7
   else
    some 0
def zaY(l:(List zt)):Option Int :=
 if (decide ((8:Int)<(l.length:Int)))=true then
  some 4
 else
  Option.bind (zS (fun b _=>Option.bind (idx l (b:Int)) fun a=>if ((((decide (a.after<1))||(decide ((3000000:Int)<a.after)))||(decide (a.lower<0)))||(decide ((9:Int)<a.lower)))=true then some (.rt 2) else Option.bind (if (decide ((0:Int)<(b:Int)))=true then (Option.bind (idx l (w64 ((b:Int)-1))) fun c=>some (decide (a.after≤c.after))) else (some false)) fun d=>if d=true then some (.rt 5) else some (.nx ())) l.length 0 ()) fun o4=>o4.andThen (fun e=>some e) fun f =>
  some 0
def Jb(c:Int)(b:Int):Option (Int×Int) :=
 Option.bind (quo c b) fun d =>
 Option.bind (rem c b) fun a =>
 Option.bind (if (decide (a<0))=true then some (w64 (d-1),w64 (a+b)) else some (d,a)) fun e =>
 some (e.1,e.2)
def zj(c:zi)(d:Int):Option (List zK) :=
 Option.bind (zS (fun j _=>Option.bind (idx c.specials (j:Int)) fun e=>if (e.day==d)=true then some (.rt e.shifts) else some (.nx ())) c.specials.length 0 ()) fun k=>k.andThen (fun b=>some b) fun p =>
 Option.bind (Jb d 7) fun l =>
 Option.bind (zS (fun m f=>Option.bind (Option.bind (idx c.week (m:Int)) fun a=>Option.bind (if (a.day==l.2)=true then Option.bind (zC 5864062014805 f ([(⟨0,a.from_,a.to_⟩:zK)]:List zK)) fun g=>some g else some f) fun h=>some h) fun i=>some (.nx i)) c.week.length 0 ([]:(List zK))) fun n=>n.andThen (fun b=>some b) fun o =>
 some o
def zcQ(c:zi):Option zi:=some c
def zbH(cals:(List zi)):Option JE :=
 Option.bind (zS (fun a b=>Option.bind (idx cals (a:Int)) fun c=>Option.bind (zcQ c) fun d=>Option.bind (zC 17592186044416 b.clocks [d]) fun e=>some (.nx (⟨e⟩:JE))) cals.length 0 (⟨([]:(List zi))⟩:JE)) fun f=>f.andThen (fun h=>some h) fun g =>
 some g
def zci(people:(List ze))(cals:(List zi)):Option zR :=
 Option.bind (zbH cals) fun a =>
 some (⟨people,a.clocks,([]:List (Int×Bool))⟩:zR)
def jo(people:(List ze))(cals:(List zi))(steps:(List zt)):Option ((Option ZO)×Int) :=
 Option.bind (zbt people cals) fun b =>
 if (b != 0)=true then
  some (none,b)
 else
  Option.bind (zaY steps) fun a =>
  if (a != 0)=true then
   some (none,a)
  else
   Option.bind (zci people cals) fun c =>
   some (some (⟨(⟨0,steps,0,([]:(List zb)),([]:(List za)),([]:List (Int×za))⟩:zB),c⟩:ZO),0)
def zcl(b:ze)(a:Int):Option Bool :=
 some (b.no==a)
def JI(people:(List ze))(no:Int):Option Int :=
 Option.bind (ZC people (fun b=>zcl b no)) fun a =>
 some a
def zct(people:(List ze))(held:(List zb)):Option (List Int) :=
 Option.bind (JS 35184372088832 (people.length:Int) (0:Int)) fun i =>
 Option.bind (zS (fun d a=>Option.bind (idx held (d:Int)) fun b=>Option.bind (JI people b.person) fun c=>Option.bind (idx a c) fun e=>Option.bind (setI a c (w64 (e+b.weight))) fun f=>some (.nx f)) held.length 0 i) fun g=>g.andThen (fun j=>some j) fun h =>
 some h
def qL(m:Int):Int :=
 if (!(Zo m 0 3000000))=true then
  2
 else
  0
def Jq(a:(List Int)):Option Int :=
 Option.bind (zS (fun c _=>Option.bind (idx a (c:Int)) fun b=>if (b != 0)=true then some (.rt b) else some (.nx ())) a.length 0 ()) fun o3=>o3.andThen (fun d=>some d) fun e =>
 some 0
def Je(c:zi)(a:Int)(b:Int):Option (zi×Int×Int) :=
 some (c,a,b)
def zcp(c:zi)(a:Int)(b:Int):Option (zi×Int×Int) :=
 some (c,a,b)
def zcU(z:Zy):Option (List Zr) :=
 Option.bind (zS (fun c a=>Option.bind (idx z.changes (c:Int)) fun b=>Option.bind (idx a (w64 ((a.length:Int)-1))) fun d=>Option.bind (setI a (w64 ((a.length:Int)-1)) ({ (d:Zr)with to_:=b.at_ })) fun e=>Option.bind (zC 5864062014805 e ([(⟨b.at_,3000001,b.offset⟩:Zr)]:List Zr)) fun f=>some (.nx f)) z.changes.length 0 ([(⟨0,3000001,z.offset⟩:Zr)]:List Zr)) fun g=>g.andThen (fun i=>some i) fun h =>
 some h
def zbo(a:Int)(b:Int):Option Int :=
 Option.bind (quo a b) fun c =>
 Option.bind (rem a b) fun d =>
 Option.bind (if (decide (d<0))=true then some (w64 (c-1)) else some c) fun e =>
 some e
noncomputable def qe(x:(List Zb))(d:Int)(e:Zb→Int→Option Int):Option (Int×Bool) :=
 Option.bind (Jr (fun a=>if (decide (a.1<a.2))=true then Option.bind (Option.bind (shr .u64 (IntKind.wrap .u64 (w64 (a.1+a.2))) 1) fun c=>Option.bind (idx x (IntKind.wrap .i64 c)) fun i=>Option.bind (e i d) fun j=>Option.bind (if (decide (j<0))=true then some (w64 ((IntKind.wrap .i64 c)+1),a.2) else some (a.1,IntKind.wrap .i64 c)) fun f=>some (f.1,f.2)) fun g=>some (.nx (g.1,g.2)) else some (.bk (a.1,a.2))) (0,(x.length:Int))) fun o3=>o3.andThen (fun m=>some m) fun b =>
 Option.bind (if (decide (b.1<(x.length:Int)))=true then (Option.bind (idx x b.1) fun k=>Option.bind (e k d) fun l=>some (b.1,l==0)) else (some (b.1,false))) fun h =>
 some (h.1,h.2)
def QN(s:Zb)(d:Int):Option Int :=
 some (zh s.day d)
noncomputable def zan(c:zi)(a:Int):Option (List zK) :=
 Option.bind (qe c.specials a (fun i j=>QN i j)) fun d =>
 if d.2=true then
  Option.bind (idx c.specials d.1) fun k =>
  Option.bind (Zp k.shifts) fun l =>
  some l
 else
  Option.bind (zS (fun m e=>Option.bind (Option.bind (idx c.week (m:Int)) fun b=>Option.bind (zbo a 7) fun f=>Option.bind (if (b.day==(w64 (a-(w64 (7*f)))))=true then Option.bind (zC 5864062014805 e ([(⟨0,b.from_,b.to_⟩:zK)]:List zK)) fun g=>some g else some e) fun h=>some h) fun n=>some (.nx n)) c.week.length 0 ([]:(List zK))) fun o=>o.andThen (fun q=>some q) fun p =>
  some p
noncomputable def jR(a:Int)(o:zi)(c:Zr)(d:Int)(e:Int){f:Type}(p:zT→f→Option (Bool×f))(k:f):Option (Bool×f) :=
 Option.bind (zan o a) fun j =>
 Option.bind (zS (fun l h=>Option.bind (idx j (l:Int)) fun b=>Option.bind (if (decide (((⟨(if d<w64 ((w64 ((w64 (a*1440))-c.offset))+b.from_) then w64 ((w64 ((w64 (a*1440))-c.offset))+b.from_) else d),(if w64 ((w64 ((w64 (a*1440))-c.offset))+b.to_)<e then w64 ((w64 ((w64 (a*1440))-c.offset))+b.to_) else e)⟩:zT).from_)<((⟨(if d<w64 ((w64 ((w64 (a*1440))-c.offset))+b.from_) then w64 ((w64 ((w64 (a*1440))-c.offset))+b.from_) else d),(if w64 ((w64 ((w64 (a*1440))-c.offset))+b.to_)<e then w64 ((w64 ((w64 (a*1440))-c.offset))+b.to_) else e)⟩:zT).to_)))=true then (Option.bind (p (⟨(if d<w64 ((w64 ((w64 (a*1440))-c.offset))+b.from_) then w64 ((w64 ((w64 (a*1440))-c.offset))+b.from_) else d),(if w64 ((w64 ((w64 (a*1440))-c.offset))+b.to_)<e then w64 ((w64 ((w64 (a*1440))-c.offset))+b.to_) else e)⟩:zT) h) fun i=>some (!i.1,i.2)) else (some (false,h))) fun g=>if g.1=true then some (.rt (false,g.2)) else some (.nx g.2)) j.length 0 k) fun m=>m.andThen (fun q=>some q) fun n =>
 some (true,n)
noncomputable def zal{f:Type}(yield:zT→f→Option (Bool×f))(k:f)(j:zi)(c:Int)(d:Int):Option f :=
 Option.bind (zcU j.zone) fun h =>
 Option.bind (zS (fun m i=>Option.bind (α:=Lp _ _) (Option.bind (idx h (m:Int)) fun a=>if (decide ((if a.to_<d then a.to_ else d)≤(if c<a.from_ then a.from_ else c)))=true then some (.fin i) else Option.bind (zbo (w64 ((if c<a.from_ then a.from_ else c)+a.offset)) 1440) fun n=>Option.bind (Jr (fun b=>Option.bind (zbo (w64 ((w64 ((if a.to_<d then a.to_ else d)-1))+a.offset)) 1440) fun l=>if (decide (b.1≤l))=true then Option.bind (jR b.1 j a (if c<a.from_ then a.from_ else c) (if a.to_<d then a.to_ else d) yield b.2) fun g=>if (!g.1)=true then some (.rt g.2) else some (.nx (w64 (b.1+1),g.2)) else some (.bk (b.1,b.2))) (w64 (n-1),i)) fun o=>o.andThen (fun e=>some (.rt e)) fun p=>some (.fin p.2)) fun q=>q.andThen (fun e=>some (.rt e)) fun r=>some (.nx r)) h.length 0 k) fun s=>s.andThen (fun e=>some e) fun t =>
 some t
noncomputable def Jh{d:Type}(yield:zT→d→Option (Bool×d))(l:d)(s:zi)(t:Int)(u:Int):Option d :=
 Option.bind (zcp s t u) fun g =>
 Option.bind (zal (zaB (fun (e:zT) (a:(zT×d))=>Option.bind (α:=Lp _ _) (Option.bind (α:=Lp _ _) (Option.bind (α:=Lp _ _) (if (decide (a.1.from_<0))=true then some (.fin (e,a.2)) else Option.bind (α:=Lp _ _) (if (decide (e.from_≤a.1.to_))=true then some (.fin ((⟨a.1.from_,(if a.1.to_<e.to_ then e.to_ else a.1.to_)⟩:zT),a.2)) else Option.bind (yield a.1 a.2) fun f=>if (!f.1)=true then some (.rt ((a.1,f.2),some 0)) else some (.fin (e,f.2))) fun o=>o.andThen (fun b=>some (.rt b)) fun h=>some (.fin (h.1,h.2))) fun p=>p.andThen (fun b=>some (.rt b)) fun i=>some (.fin (i.1,i.2))) fun q=>q.andThen (fun b=>some (.rt b)) fun j=>some (.fin (j.1,j.2))) fun r=>r.andThen (fun b=>some b) fun k=>some ((k.1,k.2),none))) (((⟨(-1),(-1)⟩:zT),l),none) g.1 g.2.1 g.2.2) fun c =>
 if c.2=some 0 then (some c.1.2) else
 Option.bind (if (decide ((0:Int)≤c.1.1.from_))=true then Option.bind (yield c.1.1 c.1.2) fun m=>some m.2 else some c.1.2) fun n =>
 some n
noncomputable def zax(c:zi)(m:Int):Option (Bool×Int) :=
 Option.bind (ZY c) fun e =>
 Option.bind (Jq ([e,(qL m)]:List Int)) fun d =>
 if (d != 0)=true then
  some (false,d)
 else
  Option.bind (Je c m (w64 (m+1))) fun a =>
  Option.bind (Jh (zaB (fun (f:zT) (g:(Int×Bool))=>some ((0,true),some 0))) ((0,false),none) a.1 a.2.1 a.2.2) fun b =>
  if b.2=some 0 then (some (b.1.2,b.1.1)) else
  some (false,0)
noncomputable def Ja(c:zi)(m:Int):Option (Int×Int) :=
 Option.bind (ZY c) fun g =>
 Option.bind (Jq ([g,(qL m)]:List Int)) fun b =>
 if (b != 0)=true then
  some (0,b)
 else
  Option.bind (Je c m 3000001) fun a =>
  Option.bind (Jh (zaB (fun (d:zT) (e:Int)=>Option.bind (if (d.from_==e)=true then some d.to_ else some e) fun h=>some (h,some 1))) (m,none) a.1 a.2.1 a.2.2) fun f =>
  if (decide ((3000000:Int)<f.1))=true then
   some (0,7)
  else
   some (f.1,0)
noncomputable def zaK(c:zi)(m:Int):Option (Int×Int) :=
 Option.bind (ZY c) fun e =>
 Option.bind (Jq ([e,(qL m)]:List Int)) fun d =>
 if (d != 0)=true then
  some (0,d)
 else
  Option.bind (Je c m 3000001) fun a =>
  Option.bind (Jh (zaB (fun (f:zT) (g:(Int×Int))=>some ((0,f.from_),some 0))) ((0,0),none) a.1 a.2.1 a.2.2) fun b =>
  if b.2=some 0 then (some (b.1.2,b.1.1)) else
  some (0,7)
noncomputable def zaZ(a:zl)(m:Int):Option Int :=
 Option.bind (zct a.assigner.people a.held) fun u =>
 Option.bind (zS (fun k c=>Option.bind (Option.bind (idx a.assigner.cals (k:Int)) fun f=>Option.bind (zS (R:=Empty) (fun d v=>Option.bind (Option.bind (idx a.assigner.people (d:Int)) fun h=>Option.bind (if (h.calendar==(k:Int))=true then (Option.bind (idx a.assigner.away (d:Int)) fun l=>some (!l)) else (some false)) fun n=>Option.bind (if n=true then (Option.bind (idx u (d:Int)) fun o=>some (decide (o<h.capacity))) else (some false)) fun p=>Option.bind (if p=true then some (d:Int) else some v) fun q=>some q) fun r=>some (.nx r)) a.assigner.people.length 0 (-1)) fun o83=>o83.andThen (fun g=>g.elim) fun w=>if (decide (w<0))=true then some c else Option.bind (zax f m) fun s=>Option.bind (if s.1=true then Option.bind (Ja f m) fun i=>some (i.1,i.2) else some (m,0)) fun b=>Option.bind (if (b.2==0)=true then Option.bind (zaK f b.1) fun j=>some (j.1,j.2) else some (b.1,b.2)) fun e=>Option.bind (if ((e.2==0)&&((decide (c<0))||(decide (e.1<c))))=true then some e.1 else some c) fun t=>some t) fun x=>some (.nx x)) a.assigner.cals.length 0 (-1)) fun o25=>o25.andThen (fun g=>some g) fun y =>
 some y
noncomputable def JO(a:zl)(m:Int):Option Int :=
 if ((a.waiting.length:Int)==0)=true then
  some (-1)
 else
  Option.bind (zaZ a m) fun g =>
  Option.bind (zS (fun h i=>Option.bind (Option.bind (idx a.waiting (h:Int)) fun b=>Option.bind (zS (R:=Empty) (fun j c=>Option.bind (Option.bind (idx a.assigner.steps (j:Int)) fun d=>Option.bind (if ((decide (m<(w64 (b.since+d.after))))&&((decide (c<0))||(decide ((w64 (b.since+d.after))<c))))=true then some (w64 (b.since+d.after)) else some c) fun f=>some f) fun k=>some (.nx k)) a.assigner.steps.length 0 i) fun l=>l.andThen (fun e=>e.elim) fun n=>some n) fun o=>some (.nx o)) a.waiting.length 0 g) fun p=>p.andThen (fun e=>some e) fun q =>
  some q
noncomputable def zbI(a:zl)(held:(List zb))(m:Int):Option Zz :=
 Option.bind (JS 281474976710656 (a.assigner.people.length:Int) (false:Bool)) fun G =>
 Option.bind (zct a.assigner.people held) fun k =>
 Option.bind (JS 35184372088832 (a.assigner.people.length:Int) (0:Int)) fun l =>
 Option.bind (JS 281474976710656 (a.assigner.cals.length:Int) (false:Bool)) fun n =>
 Option.bind (zS (fun f h=>Option.bind (idx a.assigner.cals (f:Int)) fun o=>Option.bind (zax o m) fun p=>Option.bind (idx h (f:Int)) fun H=>Option.bind (setI h (f:Int) p.1) fun q=>some (.nx q)) a.assigner.cals.length 0 n) fun r=>r.andThen (fun e=>some e) fun s =>
 Option.bind (zS (fun b c=>Option.bind (idx a.assigner.people (b:Int)) fun t=>Option.bind (idx s t.calendar) fun u=>Option.bind (if u=true then (Option.bind (idx a.assigner.away (b:Int)) fun v=>some (!v)) else (some false)) fun w=>Option.bind (idx c.duty (b:Int)) fun I=>Option.bind (setI c.duty (b:Int) w) fun x=>Option.bind (idx c.latest (b:Int)) fun J=>Option.bind (setI c.latest (b:Int) (-1)) fun y=>some (.nx (⟨c.people,x,c.weights,y⟩:Zz))) a.assigner.people.length 0 (⟨a.assigner.people,G,k,l⟩:Zz)) fun z=>z.andThen (fun e=>some e) fun A =>
 Option.bind (zS (fun B d=>Option.bind (idx held (B:Int)) fun g=>Option.bind (JI a.assigner.people g.person) fun i=>Option.bind (idx d.latest i) fun j=>Option.bind (setI d.latest i (if j<g.since then g.since else j)) fun D=>some (.nx (⟨d.people,d.duty,d.weights,D⟩:Zz))) held.length 0 A) fun E=>E.andThen (fun e=>some e) fun F =>
 some F
def Jv(f:Int)(b:Int)(d:(List za)):Option Int :=
 Option.bind (idx d f) fun a =>
 Option.bind (idx d b) fun c =>
 Option.bind (JA ([(zh c.urgency a.urgency),(zh a.since c.since),(zh a.ticket c.ticket)]:List Int)) fun e =>
 some e
noncomputable def zeu(l:(List za)):Option (List Int) :=
 Option.bind (zS (fun a b=>Option.bind (zC 17592186044416 b ([(a:Int)]:List Int)) fun c=>some (.nx c)) l.length 0 ([]:(List Int))) fun d=>d.andThen (fun i=>some i) fun e =>
 Option.bind (jQ (fun f g=>Jv f g l) e) fun h =>
 some h
def Jx(a:za)(steps:(List zt))(m:Int):Option (List zm) :=
 Option.bind (zS (fun f k=>Option.bind (Option.bind (idx steps (f:Int)) fun l=>Option.bind (if (decide (l.after≤(w64 (m-a.since))))=true then some (f:Int) else some k) fun n=>some n) fun o=>some (.nx o)) steps.length 0 (-1)) fun p=>p.andThen (fun e=>some e) fun c =>
 Option.bind ((if c<0 then some true else (idx steps c).map fun _=>false)) fun q =>
 if q=true then
  Option.bind (zJ a.needs) fun r =>
  some r
 else
  Option.bind (idx steps c) fun d =>
  if d.any=true then
   some ([]:(List zm))
  else
   Option.bind (zS (fun s g=>Option.bind (Option.bind (idx a.needs (s:Int)) fun b=>Option.bind (if (decide ((1:Int)≤(w64 (b.rank-d.lower))))=true then Option.bind (zC 5864062014805 g ([(⟨b.name,w64 (b.rank-d.lower)⟩:zm)]:List zm)) fun h=>some h else some g) fun i=>some i) fun j=>some (.nx j)) a.needs.length 0 ([]:(List zm))) fun t=>t.andThen (fun e=>some e) fun u =>
   some u
def QO(s:(List zm))(f:zm→Option Bool):Option Int :=
 Option.bind (zS (fun a _=>Option.bind (idx s (a:Int)) fun b=>Option.bind (f b) fun c=>if c=true then some (.rt (a:Int)) else some (.nx ())) s.length 0 ()) fun o3=>o3.andThen (fun d=>some d) fun e =>
 some (-1)
def ZP(s:(List zm))(f:zm→Option Bool):Option Bool :=
 Option.bind (QO s f) fun a =>
 some (decide ((0:Int)≤a))
def zbd(s:zm)(a:zm):Option Bool :=
 some ((qi s.name a.name)&&(decide (a.rank≤s.rank)))
def jB(f:ze)(needs:(List zm)):Option Bool :=
 Option.bind (zS (fun a _=>Option.bind (idx needs (a:Int)) fun b=>Option.bind (ZP f.skills (fun c=>zbd c b)) fun d=>if (!d)=true then some (.rt false) else some (.nx ())) needs.length 0 ()) fun e=>e.andThen (fun g=>some g) fun h =>
 some true
noncomputable def JL(x:(List Int))(c:Int→Int→Option Int):Option Int :=
 if (decide ((x.length:Int)<1))=true then
  none
 else
  Option.bind (idx x 0) fun g =>
  Option.bind (Jr (fun a=>if (decide (a.2<(x.length:Int)))=true then Option.bind (Option.bind (idx x a.2) fun b=>Option.bind (c b a.1) fun d=>Option.bind (if (decide (d<0))=true then some b else some a.1) fun e=>some e) fun f=>some (.nx (f,w64 (a.2+1))) else some (.bk (a.1,a.2))) (g,1)) fun h=>h.andThen (fun j=>some j) fun i =>
  some i.1
def zbM(d:Zz)(a:Int)(b:Int):Option Int :=
 Option.bind (idx d.people a) fun c =>
 Option.bind (idx d.people b) fun e =>
 Option.bind (idx d.weights a) fun f =>
 Option.bind (idx d.weights b) fun g =>
 Option.bind (idx d.latest a) fun h =>
 Option.bind (idx d.latest b) fun i =>
 Option.bind (JA ([(zh (w64 (f*e.capacity)) (w64 (g*c.capacity))),(zh h i),(zh c.no e.no)]:List Int)) fun j =>
 some j
noncomputable def Jd(d:Zz)(g:za)(needs:(List zm)):Option Int :=
 Option.bind (zS (fun a e=>Option.bind (α:=Lp _ _) (Option.bind (idx d.people (a:Int)) fun b=>Option.bind (idx d.duty (a:Int)) fun l=>Option.bind (if (!l)=true then (some true) else (Option.bind (idx d.weights (a:Int)) fun m=>some (decide ((w64 (b.capacity-m))<g.weight)))) fun n=>Option.bind (if n=true then (some true) else (Option.bind (jB b needs) fun o=>some (!o))) fun p=>if p=true then some (.fin e) else if (b.no==g.former)=true then some (.rt (a:Int)) else Option.bind (zC 17592186044416 e ([(a:Int)]:List Int)) fun h=>some (.fin h)) fun q=>q.andThen (fun c=>some (.rt c)) fun r=>some (.nx r)) d.people.length 0 ([]:(List Int))) fun s=>s.andThen (fun c=>some c) fun f =>
 if ((f.length:Int)==0)=true then
  some (-1)
 else
  Option.bind (JL f (fun i j=>zbM d i j)) fun k =>
  some k
noncomputable def je(g:zl)(held:(List zb))(waiting:(List za))(m:Int):Option ((List zb)×(List za)) :=
 Option.bind (zbI g held m) fun D =>
 Option.bind (JS 281474976710656 (waiting.length:Int) (false:Bool)) fun E =>
 Option.bind (zeu waiting) fun n =>
 Option.bind (zS (fun F a=>Option.bind (Option.bind (idx n (F:Int)) fun e=>Option.bind (idx waiting e) fun d=>Option.bind (Jx d g.assigner.steps m) fun p=>Option.bind (Jd a.2.2 d p) fun c=>if (decide (c<0))=true then some (a.1,a.2.1,a.2.2) else Option.bind (idx a.1 e) fun H=>Option.bind (setI a.1 e true) fun q=>Option.bind (idx a.2.2.weights c) fun r=>Option.bind (setI a.2.2.weights c (w64 (r+d.weight))) fun s=>Option.bind (idx a.2.2.latest c) fun i=>Option.bind (setI a.2.2.latest c (if i<m then m else i)) fun t=>Option.bind (idx g.assigner.people c) fun u=>Option.bind (zC 4398046511104 a.2.1 ([(⟨d.ticket,u.no,d.weight,m⟩:zb)]:List zb)) fun v=>some (q,v,(⟨a.2.2.people,a.2.2.duty,s,t⟩:Zz))) fun f=>some (.nx (f.1,f.2.1,f.2.2))) n.length 0 (E,([]:(List zb)),D)) fun G=>G.andThen (fun h=>some h) fun o =>
 Option.bind (zS (fun j k=>Option.bind (Option.bind (idx waiting (j:Int)) fun b=>Option.bind (idx o.1 (j:Int)) fun w=>Option.bind (if (!w)=true then Option.bind (zJ b.needs) fun l=>Option.bind (zC 2199023255552 k ([(⟨b.ticket,b.weight,b.urgency,b.since,b.former,l⟩:za)]:List za)) fun x=>some (x,(⟨b.ticket,b.weight,b.urgency,b.since,b.former,l⟩:za)) else some (k,b)) fun y=>some y.1) fun z=>some (.nx z)) waiting.length 0 ([]:(List za))) fun A=>A.andThen (fun h=>some h) fun B =>
 some (o.2.1,B)
def QP{α:Type}(n:Int):Option (List α):=if 0≤n∧n≤4398046511104 then some [] else none
def Qw(a:(List (List zb))):Option (List zb) :=
 Option.bind (zS (fun l c=>Option.bind (idx a (l:Int)) fun d=>if (decide ((w64 (c+(d.length:Int)))<0))=true then none else some (.nx (w64 (c+(d.length:Int))))) a.length 0 0) fun o3=>o3.andThen (fun b=>some b) fun m =>
 Option.bind (QP  m) fun e =>
 Option.bind (zS (fun f g=>Option.bind (idx a (f:Int)) fun h=>Option.bind (zC 4398046511104 g h) fun i=>some (.nx i)) a.length 0 e) fun j=>j.andThen (fun b=>some b) fun k =>
 some k
noncomputable def QR(a:zl)(m:Int):Option ((List zb)×zl) :=
 if ((a.waiting.length:Int)==0)=true then
  some (([]:(List zb)),a)
 else
  Option.bind (je a a.held a.waiting m) fun b =>
  Option.bind (Qw ([a.held,b.1]:List (List zb))) fun c =>
  some (b.1,(⟨a.assigner,a.now,b.2,c,a.work⟩:zl))
noncomputable def qY(c:zl)(m:Int)(i:zl→Option (Int×zl)):Option ((List zb)×Int×zl) :=
 if (!(zw m 0 3000000))=true then
  some (([]:(List zb)),2,c)
 else
  if (decide (m<c.now))=true then
   some (([]:(List zb)),5,c)
  else
   Option.bind (JO c c.now) fun j =>
   Option.bind (Jr (fun b=>if ((decide ((0:Int)≤b.2.1))&&(decide (b.2.1≤m)))=true then Option.bind (QR b.2.2 b.2.1) fun d=>Option.bind (zC 4398046511104 b.1 d.1) fun k=>Option.bind (JO d.2 b.2.1) fun g=>some (.nx (k,g,d.2)) else some (.bk (b.1,b.2.1,b.2.2))) (([]:(List zb)),j,c)) fun o25=>o25.andThen (fun l=>some l) fun f =>
   Option.bind (i f.2.2) fun a =>
   if (a.1 != 0)=true then
    some (([]:(List zb)),a.1,(⟨a.2.assigner,a.2.now,c.waiting,c.held,a.2.work⟩:zl))
   else
    Option.bind (QR (⟨a.2.assigner,m,a.2.waiting,a.2.held,a.2.work⟩:zl) m) fun e =>
    Option.bind (zC 4398046511104 f.1 e.1) fun h =>
    some (h,0,e.2)
def ZR(s:(List za))(f:za→Option Bool):Option Int :=
 Option.bind (zS (fun a _=>Option.bind (idx s (a:Int)) fun b=>Option.bind (f b) fun c=>if c=true then some (.rt (a:Int)) else some (.nx ())) s.length 0 ()) fun o3=>o3.andThen (fun d=>some d) fun e =>
 some (-1)
def Zc(s:(List za))(f:za→Option Bool):Option Bool :=
 Option.bind (ZR s f) fun a =>
 some (decide ((0:Int)≤a))
def JN(x:za)(a:za):Option Bool :=
 some (x.ticket==a.ticket)
noncomputable def zaJ(l:(List za)):Option Int :=
 if (decide ((200:Int)<(l.length:Int)))=true then
  some 4
 else
  Option.bind (zS (fun c _=>Option.bind (idx l (c:Int)) fun a=>if (!(zw a.ticket 1 400))=true then some (.rt 2) else Option.bind (zcH l none (some (c:Int))) fun d=>Option.bind (Zc d (fun e=>JN e a)) fun f=>if f=true then some (.rt 6) else if ((((!(zw a.weight 1 20))||(!(zw a.urgency 0 9)))||(!(zw a.since 0 3000000)))||(!(zw a.former 0 40)))=true then some (.rt 2) else Option.bind (Qq a.needs) fun b=>if (b != 0)=true then some (.rt b) else some (.nx ())) l.length 0 ()) fun o4=>o4.andThen (fun g=>some g) fun h =>
  some 0
def qz(s:(List zb))(f:zb→Option Bool):Option Int :=
 Option.bind (zS (fun a _=>Option.bind (idx s (a:Int)) fun b=>Option.bind (f b) fun c=>if c=true then some (.rt (a:Int)) else some (.nx ())) s.length 0 ()) fun o3=>o3.andThen (fun d=>some d) fun e =>
 some (-1)
def zav(b:zb)(a:Int):Option Bool :=
 some (b.ticket==a)
def jt(d:zl)(a:Int):Option Int :=
 Option.bind (qz d.held (fun b=>zav b a)) fun c =>
 some c
def zaz(a:za)(b:Int):Option Bool :=
 some (a.ticket==b)
def Qy(d:zl)(a:Int):Option Int :=
 Option.bind (ZR d.waiting (fun b=>zaz b a)) fun c =>
 some c
def zW(s:(List za)):Option (List za) :=
 Option.bind (zC 2199023255552 ([]:List za) s) fun a =>
 some a
noncomputable def ZF(a:za)(b:zl)(j:Int):Option (Int×za×zl) :=
 Option.bind (zaJ ([a]:List za)) fun d =>
 if (d != 0)=true then
  some (d,a,b)
 else
  Option.bind (Option.bind (Qy b a.ticket) fun g=>if (decide ((0:Int)≤g))=true then (some true) else (Option.bind (jt b a.ticket) fun h=>some (decide ((0:Int)≤h)))) fun i =>
  if i=true then
   some (6,a,b)
  else
   if (decide ((200:Int)≤(b.waiting.length:Int)))=true then
    some (4,a,b)
   else
    if (decide (j<a.since))=true then
     some (2,a,b)
    else
     Option.bind (zJ a.needs) fun c =>
     Option.bind (zW b.waiting) fun e =>
     Option.bind (zC 2199023255552 e ([(⟨a.ticket,a.weight,a.urgency,a.since,a.former,c⟩:za)]:List za)) fun f =>
     some (0,(⟨a.ticket,a.weight,a.urgency,a.since,a.former,c⟩:za),(⟨b.assigner,b.now,f,b.held,(QH b.work a.ticket (⟨a.ticket,a.weight,a.urgency,a.since,a.former,c⟩:za))⟩:zl))
theorem zfP{c:za}{d:zl}{e:Int}{x:Int×za×zl}(a:ZF c d e=some x):x.2.1=c:=by{unfold ZF at a;obtain⟨_,_,a⟩:=Option.bind_eq_some_iff.1 a;split at a;cases a;rfl;obtain⟨_,_,a⟩:=Option.bind_eq_some_iff.1 a;split at a;cases a;rfl;split at a;cases a;rfl;split at a;cases a;rfl;obtain⟨f,b,a⟩:=Option.bind_eq_some_iff.1 a;obtain⟨_,_,a⟩:=Option.bind_eq_some_iff.1 a;obtain⟨_,_,a⟩:=Option.bind_eq_some_iff.1 a;cases a;unfold zJ zC at b;split at b;rw[Option.bind_some,List.nil_append]at b;cases b;rfl;cases b}
noncomputable def zcq(c:zl)(d:za)(m:Int):Option ((List zb)×Int×zl) :=
 Option.bind (qY c m (fun e=>Option.bind (ZF d e m) fun b=>some (b.1,b.2.2))) fun a =>
 some (a.1,a.2.1,a.2.2)
def Zl(s:(List zb)):Option (List zb) :=
 Option.bind (zC 4398046511104 ([]:List zb) s) fun a =>
 some a
def ZX(l:List zb)(i j:Int):Option (List zb) :=
 if 0≤i∧i<j∧j≤(l.length:Int) then some (l.take i.toNat++l.drop j.toNat) else none
def ja(l:(List zb))(a:Int):Option (List zb) :=
 Option.bind (Zl l) fun c =>
 Option.bind (ZX c a (w64 (a+1))) fun b =>
 some b
def qr(l:List za)(i j:Int):Option (List za) :=
 if 0≤i∧i<j∧j≤(l.length:Int) then some (l.take i.toNat++l.drop j.toNat) else none
def jb(l:(List za))(a:Int):Option (List za) :=
 Option.bind (zW l) fun c =>
 Option.bind (qr c a (w64 (a+1))) fun b =>
 some b
def qq(a:zl)(d:Int):Option (Int×zl) :=
 Option.bind (jt a d) fun b =>
 Option.bind (α:=Lp _ _) (if (decide ((0:Int)≤b))=true then Option.bind (ja a.held b) fun e=>some (.fin (⟨a.assigner,a.now,a.waiting,e,a.work⟩:zl)) else Option.bind (Qy a d) fun c=>if (decide ((0:Int)≤c))=true then Option.bind (jb a.waiting c) fun f=>some (.fin (⟨a.assigner,a.now,f,a.held,a.work⟩:zl)) else some (.rt (7,a))) fun g=>g.andThen (fun i=>some i) fun h =>
 some (0,h)
noncomputable def zco(c:zl)(b:Int)(m:Int):Option ((List zb)×Int×zl) :=
 Option.bind (qY c m (fun d=>qq d b)) fun a =>
 some (a.1,a.2.1,a.2.2)
def QJ(b:zl)(no:Int)(c:Bool):Option (Int×Int) :=
 Option.bind (JI b.assigner.people no) fun a =>
 if (decide (a<0))=true then
  some (0,7)
 else
  Option.bind (idx b.assigner.away a) fun d =>
  if (!(d==c))=true then
   some (0,11)
  else
   some (a,0)
def zeI(x:zb)(y:zb):Option Int :=
 some (zh x.ticket y.ticket)
noncomputable def zbf(l:(List zb)):Option (List zb) :=
 Option.bind (jQ (fun a b=>zeI a b) l) fun c =>
 some c
noncomputable def qF(a:zl)(g:Int):Option (Int×zl) :=
 Option.bind (QJ a g false) fun c =>
 if (c.2 != 0)=true then
  some (c.2,a)
 else
  Option.bind (zS (fun t d=>Option.bind (Option.bind (idx a.held (t:Int)) fun e=>Option.bind (if (e.person==g)=true then Option.bind (zC 4398046511104 d.1 ([e]:List zb)) fun u=>some (u,d.2) else Option.bind (zC 4398046511104 d.2 ([e]:List zb)) fun l=>some (d.1,l)) fun j=>some (j.1,j.2)) fun k=>some (.nx (k.1,k.2))) a.held.length 0 (([]:(List zb)),([]:(List zb)))) fun v=>v.andThen (fun h=>some h) fun f =>
  if (decide ((200:Int)<(w64 ((a.waiting.length:Int)+(f.1.length:Int)))))=true then
   some (4,a)
  else
   Option.bind (zbf f.1) fun i =>
   Option.bind (zW a.waiting) fun m =>
   Option.bind (zS (fun n o=>Option.bind (idx i (n:Int)) fun b=>Option.bind (zC 2199023255552 o ([(⟨((zu a.work b.ticket).getD (⟨0,0,0,0,0, []⟩)).ticket,b.weight,((zu a.work b.ticket).getD (⟨0,0,0,0,0, []⟩)).urgency,((zu a.work b.ticket).getD (⟨0,0,0,0,0, []⟩)).since,g,((zu a.work b.ticket).getD (⟨0,0,0,0,0, []⟩)).needs⟩:za)]:List za)) fun p=>some (.nx p)) i.length 0 m) fun q=>q.andThen (fun h=>some h) fun r =>
   Option.bind (idx a.assigner.away c.1) fun w =>
   Option.bind (setI a.assigner.away c.1 true) fun s =>
   some (0,(⟨(⟨a.assigner.people,a.assigner.cals,a.assigner.steps,s⟩:qZ),a.now,r,f.2,a.work⟩:zl))
noncomputable def zcI(c:zl)(b:Int)(m:Int):Option ((List zb)×Int×zl) :=
 Option.bind (qY c m (fun d=>qF d b)) fun a =>
 some (a.1,a.2.1,a.2.2)
def qK(a:zl)(e:Int):Option (Int×zl) :=
 Option.bind (QJ a e true) fun b =>
 Option.bind (if (b.2==0)=true then Option.bind (idx a.assigner.away b.1) fun f=>Option.bind (setI a.assigner.away b.1 false) fun c=>some (⟨(⟨a.assigner.people,a.assigner.cals,a.assigner.steps,c⟩:qZ),a.now,a.waiting,a.held,a.work⟩:zl) else some a) fun d =>
 some (b.2,d)
noncomputable def zcr(c:zl)(b:Int)(m:Int):Option ((List zb)×Int×zl) :=
 Option.bind (qY c m (fun d=>qK d b)) fun a =>
 some (a.1,a.2.1,a.2.2)
def JY  : Int :=
 0
noncomputable def zcR(b:zl)(m:Int):Option ((List zb)×Int×zl) :=
 Option.bind (qY b m (fun c=>some (JY,c))) fun a =>
 some (a.1,a.2.1,a.2.2)
def Zx(m:Int):Bool :=
 ((decide ((0:Int)≤m))&&(decide (m≤3000000)))
def JC(a:zB)(d:zR):Option ((List zb)×(List za)) :=
 Option.bind (Zl a.held) fun b =>
 Option.bind (zW a.waiting) fun c =>
 some (b,c)
def QZ(s:(List zt))(f:zt→Option Bool):Option Int :=
 Option.bind (zS (fun a _=>Option.bind (idx s (a:Int)) fun b=>Option.bind (f b) fun c=>if c=true then some (.rt (a:Int)) else some (.nx ())) s.length 0 ()) fun o3=>o3.andThen (fun d=>some d) fun e =>
 some (-1)
def qp(s:(List zt))(f:zt→Option Bool):Option Bool :=
 Option.bind (QZ s f) fun a =>
 some (decide ((0:Int)≤a))
def zaD(s:zt)(a:za)(b:Int):Option Bool :=
 some ((w64 (a.since+s.after))==b)
def QU(c:za)(d:zB)(e:Int):Option Bool :=
 Option.bind (qp d.steps (fun a=>zaD a c e)) fun b =>
 some b
def zbK(z:Zy)(m:Int):Option Int :=
 Option.bind (zS (fun b c=>Option.bind (Option.bind (idx z.changes (b:Int)) fun a=>Option.bind (if (decide (a.at_≤m))=true then some a.offset else some c) fun d=>some d) fun e=>some (.nx e)) z.changes.length 0 z.offset) fun f=>f.andThen (fun h=>some h) fun g =>
 some g
def zdp(z:Zy)(m:Int):Option (Int×Int) :=
 Option.bind (zbK z m) fun b =>
 Option.bind (Jb (w64 (m+b)) 1440) fun a =>
 some (a.1,a.2)
def zaq(k:zi)(a:Int):Option (List zK):=zj k a
def QL(b:zi)(m:Int):Option Bool :=
 Option.bind (zdp b.zone m) fun a =>
 Option.bind (zaq b a.1) fun d =>
 Option.bind (zS (fun h _=>Option.bind (idx d (h:Int)) fun e=>if ((decide (e.from_≤a.2))&&(decide (a.2<e.to_)))=true then some (.rt true) else some (.nx ())) d.length 0 ()) fun i=>i.andThen (fun c=>some c) fun k =>
 Option.bind (zaq b (w64 (a.1-1))) fun f =>
 Option.bind (zS (fun j _=>Option.bind (idx f (j:Int)) fun g=>if ((decide (g.from_≤(w64 (a.2+1440))))&&(decide ((w64 (a.2+1440))<g.to_)))=true then some (.rt true) else some (.nx ())) f.length 0 ()) fun o67=>o67.andThen (fun c=>some c) fun l =>
 some false
noncomputable def jS(d:zR)(m:Int)(f:Int):Option Int :=
 Option.bind (Jr (fun a=>if (decide (a≤f))=true then Option.bind (α:=Lp _ _) (Option.bind (zS (fun g _=>Option.bind (idx d.people (g:Int)) fun h=>Option.bind (idx d.clocks h.calendar) fun c=>Option.bind (QL c a) fun i=>Option.bind (QL c (w64 (a-1))) fun e=>if (!(i==e))=true then some (.rt a) else some (.nx ())) d.people.length 0 ()) fun o36=>o36.andThen (fun b=>some (.rt b)) fun l=>some (.fin ())) fun j=>j.andThen (fun b=>some (.rt b)) fun n=>some (.nx (w64 (a+1))) else some (.bk a)) (w64 (m+1))) fun k=>k.andThen (fun b=>some b) fun o =>
 some (-1)
def zdZ(f:Int)(b:Int)(d:(List za)):Option Int :=
 Option.bind (idx d f) fun a =>
 Option.bind (idx d b) fun c =>
 Option.bind (JA ([(zh c.urgency a.urgency),(zh a.since c.since),(zh a.ticket c.ticket)]:List Int)) fun e =>
 some e
noncomputable def zcf(l:(List za)):Option (List Int) :=
 Option.bind (JS 35184372088832 (l.length:Int) (0:Int)) fun c =>
 Option.bind (zS (fun a b=>Option.bind (idx b (a:Int)) fun j=>Option.bind (setI b (a:Int) (a:Int)) fun d=>some (.nx d)) l.length 0 c) fun o26=>o26.andThen (fun i=>some i) fun e =>
 Option.bind (jQ (fun f g=>zdZ f g l) e) fun h =>
 some h
def zae(a:za)(steps:(List zt))(m:Int):Option (List zm) :=
 Option.bind (zS (fun e k=>Option.bind (Option.bind (idx steps (e:Int)) fun l=>Option.bind (if (decide (l.after≤(w64 (m-a.since))))=true then some (e:Int) else some k) fun n=>some n) fun o=>some (.nx o)) steps.length 0 (-1)) fun p=>p.andThen (fun d=>some d) fun f =>
 if (decide (f<0))=true then
  some a.needs
 else
  Option.bind (idx steps f) fun c =>
  if c.any=true then
   some ([]:(List zm))
  else
   Option.bind (zS (fun q g=>Option.bind (Option.bind (idx a.needs (q:Int)) fun b=>Option.bind (if (decide ((1:Int)≤(w64 (b.rank-c.lower))))=true then Option.bind (zC 5864062014805 g ([(⟨b.name,w64 (b.rank-c.lower)⟩:zm)]:List zm)) fun h=>some h else some g) fun i=>some i) fun j=>some (.nx j)) a.needs.length 0 ([]:(List zm))) fun r=>r.andThen (fun d=>some d) fun s =>
   some s
def jh(held:(List zb))(no:Int):Option (Int×Int) :=
 Option.bind (zS (fun f a=>Option.bind (Option.bind (idx held (f:Int)) fun b=>Option.bind (if (b.person==no)=true then some (w64 (a.1+b.weight),(if a.2<b.since then b.since else a.2)) else some (a.1,a.2)) fun c=>some (c.1,c.2)) fun d=>some (.nx (d.1,d.2))) held.length 0 (0,(-1))) fun o3=>o3.andThen (fun g=>some g) fun e =>
 some (e.1,e.2)
def jx(d:zR)(a:ze)(m:Int):Option Bool :=
 Option.bind (if (!((zu d.away a.no).getD false))=true then (Option.bind (idx d.clocks a.calendar) fun b=>Option.bind (QL b m) fun c=>some c) else (some false)) fun e =>
 some e
def zdJ(s:zm)(a:zm):Option Bool :=
 some ((qi s.name a.name)&&(decide (a.rank≤s.rank)))
def zbF(f:ze)(needs:(List zm)):Option Bool :=
 Option.bind (zS (fun a _=>Option.bind (idx needs (a:Int)) fun b=>Option.bind (ZP f.skills (fun c=>zdJ c b)) fun d=>if (!d)=true then some (.rt false) else some (.nx ())) needs.length 0 ()) fun e=>e.andThen (fun g=>some g) fun h =>
 some true
def Jg(a:ze)(b:ze)(e:za)(held:(List zb)):Option Bool :=
 if (b.no==e.former)=true then
  some false
 else
  if (a.no==e.former)=true then
   some true
  else
   Option.bind (jh held a.no) fun c =>
   Option.bind (jh held b.no) fun d =>
   Option.bind (JA ([(zh (w64 (c.1*b.capacity)) (w64 (d.1*a.capacity))),(zh c.2 d.2)]:List Int)) fun f =>
   some (decide (f<0))
def zbk(a:zb)(b:zb):Option Int :=
 some (zh a.ticket b.ticket)
noncomputable def zaI(d:zR)(held:(List zb))(waiting:(List za))(steps:(List zt))(m:Int):Option ((List zb)×(List za)×(List zb)) :=
 Option.bind (Zl held) fun Q =>
 Option.bind (zcf waiting) fun p =>
 Option.bind (zS (fun R a=>Option.bind (Option.bind (idx p (R:Int)) fun q=>Option.bind (idx waiting q) fun b=>Option.bind (zae b steps m) fun x=>Option.bind (zS (R:=Empty) (fun k c=>Option.bind (Option.bind (idx d.people (k:Int)) fun e=>Option.bind (jh a.1 e.no) fun y=>Option.bind (Option.bind (zbF e x) fun z=>if (!z)=true then (some true) else (Option.bind (jx d e m) fun A=>if (!A)=true then (some true) else (some (decide ((w64 (e.capacity-y.1))<b.weight))))) fun B=>if B=true then some c else Option.bind ((if c<0 then some true else (idx d.people c).map fun _=>false)) fun D=>Option.bind (if D=true then (some true) else (Option.bind (idx d.people c) fun E=>Option.bind (Jg  e E b a.1) fun F=>some F)) fun G=>Option.bind (if G=true then some (k:Int) else some c) fun H=>some H) fun I=>some (.nx I)) d.people.length 0 (-1)) fun J=>J.andThen (fun f=>f.elim) fun g=>Option.bind ((if g<0 then some true else (idx d.people g).map fun _=>false)) fun K=>Option.bind (if (!K)=true then Option.bind (idx d.people g) fun l=>Option.bind (zC 4398046511104 a.1 ([(⟨b.ticket,l.no,b.weight,m⟩:zb)]:List zb)) fun L=>Option.bind (zC 4398046511104 a.2.1 ([(⟨b.ticket,l.no,b.weight,m⟩:zb)]:List zb)) fun M=>some (L,M,(QH a.2.2 q true)) else some (a.1,a.2.1,a.2.2)) fun h=>some (h.1,h.2.1,h.2.2)) fun i=>some (.nx (i.1,i.2.1,i.2.2))) p.length 0 (Q,([]:(List zb)),([]:List (Int×Bool)))) fun S=>S.andThen (fun f=>some f) fun j =>
 Option.bind (zS (fun n o=>Option.bind (Option.bind (idx waiting (n:Int)) fun r=>Option.bind (if (!((zu j.2.2 (n:Int)).getD false))=true then Option.bind (zC 2199023255552 o ([r]:List za)) fun s=>some s else some o) fun t=>some t) fun N=>some (.nx N)) waiting.length 0 ([]:(List za))) fun O=>O.andThen (fun f=>some f) fun P =>
 Option.bind (jQ (fun u v=>zbk u v) j.1) fun w =>
 some (w,P,j.2.1)
noncomputable def qQ(a:zB)(c:zR)(m:Int):Option ((List zb)×zB) :=
 Option.bind (zaI c a.held a.waiting a.steps m) fun b =>
 some (b.2.2,(⟨0,a.steps,m,b.1,b.2.1,a.works⟩:zB))
noncomputable def JJ(g:zB)(e:zR)(m:Int):Option ((List zb)×zB) :=
 Option.bind (Jr (fun a=>if ((decide (a.2.1≤m))&&(decide ((0:Int)<(a.2.2.waiting.length:Int))))=true then Option.bind (Option.bind (Zc a.2.2.waiting (fun k=>QU k a.2.2 a.2.1)) fun l=>Option.bind (if l=true then (some true) else (Option.bind (jS e (w64 (a.2.1-1)) a.2.1) fun h=>some (h==a.2.1))) fun i=>Option.bind (if i=true then Option.bind (qQ a.2.2 e a.2.1) fun c=>Option.bind (zC 4398046511104 a.1 c.1) fun j=>some (j,c.2) else some (a.1,a.2.2)) fun d=>some (d.1,d.2)) fun f=>some (.nx (f.1,w64 (a.2.1+1),f.2)) else some (.bk (a.1,a.2.1,a.2.2))) (([]:(List zb)),w64 (g.now+1),g)) fun n=>n.andThen (fun o=>some o) fun b =>
 some (b.1,(⟨0,b.2.2.steps,m,b.2.2.held,b.2.2.waiting,b.2.2.works⟩:zB))
def JD(x:za)(a:za):Option Bool :=
 some (x.ticket==a.ticket)
def zbq(l:(List za)):Option Int :=
 if (decide ((200:Int)<(l.length:Int)))=true then
  some 4
 else
  Option.bind (zS (fun c _=>Option.bind (idx l (c:Int)) fun a=>if ((decide (a.ticket<1))||(decide ((400:Int)<a.ticket)))=true then some (.rt 2) else Option.bind (zcH l none (some (c:Int))) fun d=>Option.bind (Zc d (fun e=>JD e a)) fun f=>if f=true then some (.rt 6) else if (((((((decide (a.weight<1))||(decide ((20:Int)<a.weight)))||(decide (a.urgency<0)))||(decide ((9:Int)<a.urgency)))||(!(Zx a.since)))||(decide (a.former<0)))||(decide ((40:Int)<a.former)))=true then some (.rt 2) else Option.bind (jn a.needs) fun b=>if (b != 0)=true then some (.rt b) else some (.nx ())) l.length 0 ()) fun o4=>o4.andThen (fun g=>some g) fun h =>
  some 0
def JR(a:za)(b:Int):Option Bool :=
 some (a.ticket==b)
def QT(c:zB)(d:zR)(no:Int):Option Int :=
 Option.bind (ZR c.waiting (fun a=>JR a no)) fun b =>
 some b
def zbJ(b:zb)(a:Int):Option Bool :=
 some (b.ticket==a)
def JU(l:(List zb))(no:Int):Option Int :=
 Option.bind (qz l (fun b=>zbJ b no)) fun a =>
 some a
noncomputable def qt(a:zB)(d:zR)(b:za)(m:Int):Option (Int×zB) :=
 Option.bind (zbq ([b]:List za)) fun c =>
 if (c != 0)=true then
  some (c,a)
 else
  Option.bind (Option.bind (QT a d b.ticket) fun e=>if (decide ((0:Int)≤e))=true then (some true) else (Option.bind (JU a.held b.ticket) fun f=>some (decide ((0:Int)≤f)))) fun g =>
  if g=true then
   some (6,a)
  else
   if ((a.waiting.length:Int)==200)=true then
    some (4,a)
   else
    if (decide (m<b.since))=true then
     some (2,a)
    else
     Option.bind (zC 2199023255552 a.waiting ([b]:List za)) fun h =>
     some (0,(⟨0,a.steps,a.now,a.held,h,(QH a.works b.ticket b)⟩:zB))
def jY(a:zB)(d:zR)(no:Int):Option (Int×zB) :=
 Option.bind (QT a d no) fun b =>
 if (decide ((0:Int)≤b))=true then
  Option.bind (qr a.waiting b (w64 (b+1))) fun e =>
  some (0,(⟨0,a.steps,a.now,a.held,e,a.works⟩:zB))
 else
  Option.bind (JU a.held no) fun c =>
  if (decide (c<0))=true then
   some (7,a)
  else
   Option.bind (ZX a.held c (w64 (c+1))) fun f =>
   some (0,(⟨0,a.steps,a.now,f,a.waiting,a.works⟩:zB))
def zba(b:ze)(a:Int):Option Bool :=
 some (b.no==a)
def Jc(people:(List ze))(no:Int):Option Int :=
 Option.bind (ZC people (fun b=>zba b no)) fun a =>
 some a
noncomputable def Jn(e:zB)(d:zR)(no:Int):Option (Int×zB×(List (Int×Bool))) :=
 Option.bind (Jc d.people no) fun i =>
 if (decide (i<0))=true then
  some (7,e,d.away)
 else
  if ((zu d.away no).getD false)=true then
   some (11,e,d.away)
  else
   Option.bind (zS (fun j a=>Option.bind (Option.bind (idx e.held (j:Int)) fun c=>if (c.person != no)=true then Option.bind (zC 4398046511104 a.1 ([c]:List zb)) fun g=>some (g,a.2) else Option.bind (zC 2199023255552 a.2.waiting ([(⟨((zu a.2.works c.ticket).getD (⟨0,0,0,0,0, []⟩)).ticket,((zu a.2.works c.ticket).getD (⟨0,0,0,0,0, []⟩)).weight,((zu a.2.works c.ticket).getD (⟨0,0,0,0,0, []⟩)).urgency,((zu a.2.works c.ticket).getD (⟨0,0,0,0,0, []⟩)).since,no,((zu a.2.works c.ticket).getD (⟨0,0,0,0,0, []⟩)).needs⟩:za)]:List za)) fun h=>some (a.1,(⟨0,a.2.steps,a.2.now,a.2.held,h,a.2.works⟩:zB))) fun f=>some (.nx (f.1,f.2))) e.held.length 0 (([]:(List zb)),e)) fun k=>k.andThen (fun l=>some l) fun b =>
   if (decide ((200:Int)<(b.2.waiting.length:Int)))=true then
    some (4,(⟨0,b.2.steps,b.2.now,b.1,b.2.waiting,b.2.works⟩:zB),(QH d.away no true))
   else
    some (0,(⟨0,b.2.steps,b.2.now,b.1,b.2.waiting,b.2.works⟩:zB),(QH d.away no true))
noncomputable def ZZ(a:ZO)(d:ByteArray)(s:za)(no:Int)(m:Int):Option ((List zb)×Int×ZO) :=
 if (!(Zx m))=true then
  some (([]:(List zb)),2,a)
 else
  if (decide (m<a.r.now))=true then
   some (([]:(List zb)),5,a)
  else
   Option.bind (JC a.r a.d) fun o =>
   Option.bind (JJ (⟨0,a.r.steps,a.r.now,o.1,o.2,a.r.works⟩:zB) (⟨a.d.people,a.d.clocks,(allT a.d.away)⟩:zR) m) fun b =>
   Option.bind (Option.bind (if (qi d (⟨#[97,114,114,105,118,101]⟩:ByteArray))=true then Option.bind (qt b.2 (⟨a.d.people,a.d.clocks,(allT a.d.away)⟩:zR) s m) fun p=>some (p.1,p.2,(allT a.d.away)) else Option.bind (if (qi d (⟨#[102,105,110,105,115,104]⟩:ByteArray))=true then Option.bind (jY b.2 (⟨a.d.people,a.d.clocks,(allT a.d.away)⟩:zR) no) fun l=>some (l.1,l.2,(allT a.d.away)) else Option.bind (if (qi d (⟨#[108,101,97,118,101]⟩:ByteArray))=true then Option.bind (Jn b.2 (⟨a.d.people,a.d.clocks,(allT a.d.away)⟩:zR) no) fun e=>some (e.1,e.2.1,e.2.2) else Option.bind (if (qi d (⟨#[114,101,116,117,114,110]⟩:ByteArray))=true then Option.bind (Jc a.d.people no) fun q=>Option.bind (if (decide ((0:Int)≤q))=true then Option.bind (if ((zu (allT a.d.away) no).getD false)=true then some (0,b.2,(zam (allT a.d.away) no)) else some (11,b.2,(allT a.d.away))) fun f=>some (f.1,f.2.1,f.2.2) else some (7,b.2,(allT a.d.away))) fun g=>some (g.1,g.2.1,g.2.2) else some (0,b.2,(allT a.d.away))) fun h=>some (h.1,h.2.1,h.2.2)) fun i=>some (i.1,i.2.1,i.2.2)) fun j=>some (j.1,j.2.1,j.2.2)) fun k=>some (k.1,k.2.1,k.2.2)) fun c =>
   if (c.1 != 0)=true then
    some (([]:(List zb)),c.1,a)
   else
    Option.bind (qQ c.2.1 (⟨a.d.people,a.d.clocks,c.2.2⟩:zR) m) fun n =>
    Option.bind (zC 4398046511104 b.1 n.1) fun r =>
    some (r,0,(⟨n.2,(⟨a.d.people,a.d.clocks,c.2.2⟩:zR)⟩:ZO))
def zap(a:ZO):Option ((List za)×(List zb)×Int) :=
 some (a.r.waiting,a.r.held,a.r.now)
def qa(c:(List zb))(d:(List zb)):Option Bool :=
 if ((c.length:Int) != (d.length:Int))=true then
  some false
 else
  Option.bind (zS (fun e _=>Option.bind (idx c (e:Int)) fun a=>Option.bind (idx d (e:Int)) fun b=>if (!(a.ticket==b.ticket&&(a.person==b.person&&(a.weight==b.weight&&(a.since==b.since)))))=true then some (.rt false) else some (.nx ())) c.length 0 ()) fun f=>f.andThen (fun g=>some g) fun h =>
  some true
def zca(a:zl):Option Int :=
 some a.now
noncomputable def zaU(c:zl):Option (List zb) :=
 Option.bind (Zl c.held) fun a =>
 Option.bind (zbf a) fun b =>
 some b
def JB(i:zl):Option (List za) :=
 Option.bind (zW i.waiting) fun a =>
 Option.bind (zS (fun b c=>Option.bind (idx c (b:Int)) fun d=>Option.bind (zJ d.needs) fun e=>Option.bind (setI c (b:Int) ({ (d:za)with needs:=e })) fun f=>some (.nx f)) a.length 0 a) fun g=>g.andThen (fun j=>some j) fun h =>
 some h
def qg(a:(List za))(b:(List za))(g:za→za→Option Bool):Option Bool :=
 if ((a.length:Int) != (b.length:Int))=true then
  some false
 else
  Option.bind (zS (fun c _=>Option.bind (idx a (c:Int)) fun d=>Option.bind (idx b (c:Int)) fun e=>Option.bind (g d e) fun f=>if (!f)=true then some (.rt false) else some (.nx ())) a.length 0 ()) fun h=>h.andThen (fun i=>some i) fun j =>
  some true
def Qp(a:(List zm))(d:(List zm)):Option Bool :=
 if ((a.length:Int) != (d.length:Int))=true then
  some false
 else
  Option.bind (zS (fun e _=>Option.bind (idx a (e:Int)) fun b=>Option.bind (idx d (e:Int)) fun c=>if (!(qi b.name c.name&&(b.rank==c.rank)))=true then some (.rt false) else some (.nx ())) a.length 0 ()) fun f=>f.andThen (fun g=>some g) fun h =>
  some true
def zai(a:za)(b:za):Option Bool :=
 Option.bind (if (a.ticket==b.ticket)=true then (if (a.weight==b.weight)=true then (if (a.urgency==b.urgency)=true then (if (a.since==b.since)=true then (if (a.former==b.former)=true then (Option.bind (Qp a.needs b.needs) fun c=>some c) else (some false)) else (some false)) else (some false)) else (some false)) else (some false)) fun d =>
 some d
def zbY(e:(List za))(b:(List za)):Option Bool :=
 Option.bind (Option.bind (qg e b (fun a c=>zai a c)) fun d=>some d) fun f =>
 some f
noncomputable def zcJ(people:(List ze))(cals:(List zi))(steps:(List zt))(t:(List za))(v:(List Int)):Option Bool :=
 Option.bind (JT people cals steps) fun b =>
 match b.1 with
 | none =>
  Option.bind (jo people cals steps) fun c =>
  match c.1 with
  | none =>
   if ((b.2 != c.2)||(c.2 != 0))=true then
    some ((b.2==c.2)&&true)
   else
    some false
  | some R39 =>
   if ((b.2 != c.2)||(c.2 != 0))=true then
    some ((b.2==c.2)&&true)
   else
    some false
 | some R17 =>
  Option.bind (jo people cals steps) fun d =>
  match d.1 with
  | none =>
   if ((b.2 != d.2)||(d.2 != 0))=true then
    some ((b.2==d.2)&&false)
   else
    none
  | some R62 =>
   if ((b.2 != d.2)||(d.2 != 0))=true then
    some ((b.2==d.2)&&false)
   else
    Option.bind (Jr (fun a=>if (decide ((4:Int)≤(a.1.length:Int)))=true then Option.bind (idx a.1 3) fun e=>Option.bind (idx a.1 1) fun j=>Option.bind (if ((decide ((0:Int)≤j))&&(decide (j<(t.length:Int))))=true then Option.bind (idx t j) fun w=>some w else some (⟨0,0,0,0,0,([]:(List zm))⟩:za)) fun u=>Option.bind (idx a.1 0) fun x=>Option.bind (idx ([(⟨#[97,114,114,105,118,101]⟩:ByteArray),(⟨#[102,105,110,105,115,104]⟩:ByteArray),(⟨#[108,101,97,118,101]⟩:ByteArray),(⟨#[114,101,116,117,114,110]⟩:ByteArray),(⟨#[116,105,99,107]⟩:ByteArray)]:List ByteArray) (Int.tmod (w64 ((Int.tmod x 5)+5)) 5)) fun g=>Option.bind (Option.bind (if (qi g (⟨#[97,114,114,105,118,101]⟩:ByteArray))=true then Option.bind (zcq a.2.2.2 u (w64 (a.2.1+e))) fun k=>some (k.2.1,k.1,k.2.2) else Option.bind (if (qi g (⟨#[102,105,110,105,115,104]⟩:ByteArray))=true then Option.bind (idx a.1 2) fun y=>Option.bind (zco a.2.2.2 y (w64 (a.2.1+e))) fun l=>some (l.2.1,l.1,l.2.2) else Option.bind (if (qi g (⟨#[108,101,97,118,101]⟩:ByteArray))=true then Option.bind (idx a.1 2) fun z=>Option.bind (zcI a.2.2.2 z (w64 (a.2.1+e))) fun m=>some (m.2.1,m.1,m.2.2) else Option.bind (if (qi g (⟨#[114,101,116,117,114,110]⟩:ByteArray))=true then Option.bind (idx a.1 2) fun A=>Option.bind (zcr a.2.2.2 A (w64 (a.2.1+e))) fun n=>some (n.2.1,n.1,n.2.2) else Option.bind (zcR a.2.2.2 (w64 (a.2.1+e))) fun o=>some (o.2.1,o.1,o.2.2)) fun p=>some (p.1,p.2.1,p.2.2)) fun q=>some (q.1,q.2.1,q.2.2)) fun r=>some (r.1,r.2.1,r.2.2)) fun s=>some (s.1,s.2.1,s.2.2)) fun f=>Option.bind (idx a.1 2) fun B=>Option.bind (ZZ a.2.2.1 g u B (w64 (a.2.1+e))) fun h=>Option.bind (zap h.2.2) fun i=>Option.bind (if (f.1 != h.2.1)=true then (some true) else (Option.bind (qa f.2.1 h.1) fun D=>if (!D)=true then (some true) else (Option.bind (zca f.2.2) fun E=>if (E != i.2.2)=true then (some true) else (Option.bind (zaU f.2.2) fun F=>Option.bind (qa F i.2.1) fun G=>if (!G)=true then (some true) else (Option.bind (JB f.2.2) fun H=>Option.bind (zbY H i.1) fun I=>some (!I)))))) fun J=>if J=true then some (.rt false) else Option.bind (zcH a.1 (some 4) none) fun K=>some (.nx (K,i.2.2,h.2.2,f.2.2)) else some (.bk (a.1,a.2.1,a.2.2.1,a.2.2.2))) (v,0,R62,R17)) fun L=>L.andThen (fun M=>some M) fun N =>
    some true
end Go.Proofs.YtdpmeckhhcjoiaaGreatDoor.M
