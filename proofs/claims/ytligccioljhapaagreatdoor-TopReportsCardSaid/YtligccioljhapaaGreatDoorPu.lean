import GoSem.Core.View
import GoSem.ClaimData
import Derived.Lib.Join
namespace Go.Pu
open Go
set_option linter.unusedSimpArgs false
set_option linter.unusedVariables false
def w64(n:Int):Int:=IntKind.i64.wrap n
theorem ZB{n:Int}(b : -9223372036854775808≤n)(a:n≤9223372036854775807):w64 n=n:=by{unfold w64;simp only[IntKind.wrap,IntKind.bits,IntKind.signed];simp;split <;> omega}
def idx{α:Type}(l:List α)(i:Int):Option α:=if 0≤i then l[i.toNat]? else none
def setI{α:Type}(l:List α)(i:Int)(x:α):Option (List α) :=
 if 0≤i∧i.toNat<l.length then some (l.set i.toNat x) else none
def optE{α:Type}(l:List α)(i:Int):Option (Option α):=if i<0 then some none else (idx l i).map some
def zE{α:Type}(lim:Nat)(l m:List α):Option (List α):=if l.length+m.length≤lim then some (l++m) else none
def ji{α:Type}(lim:Nat)(k:Int)(z:α):Option (List α):=if 0≤k∧k.toNat≤lim then some (List.replicate k.toNat z) else none
def toU32(x:Int):UInt32:=UInt32.ofNat (IntKind.u32.wrap x).toNat
def toU8(x:Int):UInt8:=UInt8.ofNat (IntKind.u8.wrap x).toNat
def makeC{α:Type}(lim:Nat)(k c:Int)(z:α):Option (List α):=if 0≤k∧k≤c∧c.toNat≤lim then some (List.replicate k.toNat z) else none
def jL{α:Type}(l m:List α):List α:=m.take l.length++l.drop m.length
def quo(a b:Int):Option Int:=if b=0 then none else some (w64 (a.tdiv b))
def rem(a b:Int):Option Int:=if b=0 then none else some (a.tmod b)
def shl(k:IntKind)(x y:Int):Option Int:=if y<0 then none else some (k.wrap (x*2^(min y.toNat k.bits)))
def shr(k:IntKind)(x y:Int):Option Int:=if y<0 then none else some (x.fdiv (2^(min y.toNat k.bits)))
def idxS(s:ByteArray)(i:Int):Option UInt8:=if 0≤i then s[i.toNat]? else none
def catS(s u:ByteArray):Option ByteArray:=if ((s.size+u.size:Nat):Int)>IntKind.i64.max then none else some (s++u)
def strLt(s u:ByteArray):Bool:=Op.bytesLess s.toList u.toList
def Zw(s u:ByteArray):Bool:=s.toList==u.toList
def zfI(n:Nat)(lo hi:Option Int):Option (Nat×Nat) :=
 let h:=hi.getD n
 let l:=lo.getD 0
 if 0≤h∧h≤n∧0≤l∧l≤h then some (l.toNat,h.toNat) else none
def sliceS(s:ByteArray)(lo hi:Option Int):Option ByteArray:=(zfI s.size lo hi).map fun p=>s.extract p.1 p.2
def jE{α:Type}(s:List α)(lo hi:Option Int):Option (List α):=(zfI s.length lo hi).map fun p=>(s.take p.2).drop p.1
def zfg:List UInt8→UInt8→Int
 | [],_ => -1
 | b::l,c=>if b==c then 0 else if zfg l c == -1 then -1 else zfg l c+1
def indexByteS(s:ByteArray)(c:Int):Int:=zfg s.toList c.toNat.toUInt8
inductive Ctl (S R:Type) where
 | nx (s:S)
 | bk (s:S)
 | rt (r:R)
inductive Lp (S R:Type) where
 | fin (s:S)
 | rt (r:R)
def Lp.andThen{S R T:Type}(o:Lp S R)(g:R→Option T)(f:S→Option T):Option T :=
 match o with
 | .fin s=>f s
 | .rt r=>g r
theorem Lp.andThen_fin{a R T:Type}{s:a}{g:R→Option T}{f:a→Option T}:(Lp.fin s).andThen g f=f s:=rfl
theorem Lp.andThen_rt{a R T:Type}{r:R}{g:R→Option T}{f:a→Option T}:(Lp.rt r).andThen g f=g r:=rfl
def zG{S R:Type}(body:Nat→S→Option (Ctl S R)):Nat→Nat→S→Option (Lp S R)
 | 0,_,s=>some (.fin s)
 | m+1,k,s =>
  match body k s with
  | none=>none
  | some (.nx s')=>zG body m (k+1) s'
  | some (.bk s')=>some (.fin s')
  | some (.rt r)=>some (.rt r)
def Jv{S R:Type}(body:S→Option (Ctl S R)):Nat→S→Option (Lp S R)
 | 0,_=>none
 | n+1,s =>
  match body s with
  | none=>none
  | some (.nx s')=>Jv body n s'
  | some (.bk s')=>some (.fin s')
  | some (.rt r)=>some (.rt r)
theorem zjX{a R:Type}{body:a→Option (Ctl a R)}{n:Nat}{s:a}{r:Lp a R}(b:Jv body n s=some r):Jv body (n+1) s=some r:=by{
 induction n generalizing s with
 | zero=>simp[Jv]at b
 | succ n ih =>
  rw[Jv]at b⊢
  split <;> simp_all}
theorem zic{a R:Type}{body:a→Option (Ctl a R)}{n m:Nat}(b:n≤m){s:a}{r:Lp a R}(c:Jv body n s=some r):Jv body m s=some r:=by{
 induction b with
 | refl=>exact c
 | step _ ih=>exact zjX ih}
open Classical in
noncomputable def jO{S R:Type}(body:S→Option (Ctl S R))(s:S):Option (Lp S R) :=
 if h:∃n r,Jv body n s=some r then some h.choose_spec.choose else none
theorem zhy{d R:Type}{body:d→Option (Ctl d R)}{s:d}{r:Lp d R}:jO body s=some r↔∃a,Jv body a s=some r:=by{unfold jO;constructor;intro c;split at c;rename_i b;have:=b.choose_spec.choose_spec;rw[Option.some.inj c]at this;exact⟨_,this⟩;cases c;rintro⟨a,c⟩;have b:∃a r,Jv body a s=some r:=⟨a,r,c⟩;rw[dif_pos b];have f:=b.choose_spec.choose_spec;have g:=zic (Nat.le_max_left b.choose a) f;have e:=zic (Nat.le_max_right b.choose a) c;rw[g]at e;exact e}
theorem JF{b R:Type}{body:b→Option (Ctl b R)}(d:b→Prop)(μ:b→Nat)(Q:Lp b R→Prop){s:b}(l:d s)(i:∀s,d s→∃e,body s=some e∧match e with
   | .nx s'=>d s'∧μ s'<μ s
   | .bk s'=>Q (.fin s')
   | .rt a=>Q (.rt a)):∃a,jO body s=some a∧Q a:=by{
 have j:∀c s,μ s<c→d s→∃a,Jv body c s=some a∧Q a:=by
  intro c
  induction c with
  | zero=>intro s h;omega
  | succ c ih =>
   intro s o m
   obtain⟨e,n,hp⟩:=i s m
   rw[Jv,n]
   cases e with
   | nx s' =>
    obtain⟨a,f,g⟩:=ih s' (by have:=hp.2;omega) hp.1
    exact⟨a,f,g⟩
   | bk s'=>exact⟨_,rfl,hp⟩
   | rt a=>exact⟨_,rfl,hp⟩
 obtain⟨a,f,g⟩:=j (μ s+1) s (by omega) l;exact⟨a,zhy.2 ⟨_,f⟩,g⟩}
theorem zba{b R:Type}{body:Nat→b→Option (Ctl b R)}(n:Nat)(c:Nat→b→Prop)(Q:Lp b R→Prop){s:b}(j:c 0 s)(g:∀k s,k<n→c k s→∃e,body k s=some e∧match e with
   | .nx s'=>c (k+1) s'
   | .bk s'=>Q (.fin s')
   | .rt a=>Q (.rt a))(h:∀s,c n s→Q (.fin s)):∃a,zG body n 0 s=some a∧Q a:=by{
 have i:∀d k s,k+d=n→c k s→∃a,zG body d k s=some a∧Q a:=by
  intro d
  induction d with
  | zero =>
   intro k s l f
   obtain rfl:k=n:=by omega
   exact⟨_,rfl,h s f⟩
  | succ d ih =>
   intro k s l f
   obtain⟨e,m,hp⟩:=g k s (by omega) f
   rw[zG,m]
   cases e with
   | nx s'=>exact ih (k+1) s' (by omega) hp
   | bk s'=>exact⟨_,rfl,hp⟩
   | rt a=>exact⟨_,rfl,hp⟩
 exact i n 0 s (by omega) j}
def yieldB{X S:Type}(bd:X→S→Option (S×Option Nat))(x:X)(z:S×Option Nat):Option (Bool×(S×Option Nat)) :=
 Option.bind (if z.2.isNone then bd x z.1 else none) fun r=>some (r.2.isNone,r)
end Go.Pu
namespace Go.Pu
open Go
set_option linter.unusedSimpArgs false
set_option linter.unusedVariables false
theorem Jm{α:Type}(l:List α)(k:Nat):idx l (k:Int)=l[k]?:=by{simp[idx]}
theorem zfH{α:Type}{l:List α}{i:Int}(c:0≤i)(d:i<l.length):∃a,idx l i=some a∧l[i.toNat]?=some a:=by{
 have b:i.toNat<l.length:=by omega
 exact⟨l[i.toNat],by simp[idx,c,b],by simp[b]⟩}
def forL{α S R:Type}(body:Nat→α→S→Option (Ctl S R)):List α→Nat→S→Option (Lp S R)
 | [],_,s=>some (.fin s)
 | x::l,k,s =>
  match body k x s with
  | none=>none
  | some (.nx s')=>forL body l (k+1) s'
  | some (.bk s')=>some (.fin s')
  | some (.rt r)=>some (.rt r)
theorem zev{α S R:Type}(l:List α)(body:Nat→α→S→Option (Ctl S R))(b:Nat→S→Option (Ctl S R))(g:∀k s a,l[k]?=some a→b k s=body k a s)(s:S):zG b l.length 0 s=forL body l 0 s:=by{
 have f:∀(d:List α) (k:Nat) (s:S),(∀c a,d[c]?=some a→l[k+c]?=some a)→zG b d.length k s=forL body d k s:=by
  intro d
  induction d with
  | nil=>intro k s _;rfl
  | cons a d ih =>
   intro k s e
   rw[List.length_cons,zG,forL,g k s a (e 0 a rfl)]
   rcases hbx:body k a s with _|(h|h|m) <;> simp only
   exact ih _ _ fun c j i=>by
    have:=e (c+1) j (by simpa using i)
    rw[show k+1+c=k+(c+1) by omega]
    exact this
 exact f l 0 s fun c a e=>by rw[Nat.zero_add];exact e}
theorem zlX{α R:Type}(p:α→Bool)(r:R)(l:List α)(k:Nat):
  forL (fun _ a (_:Unit)=>if p a=true then some (.rt r) else some (.nx ())) l k ()=some (if l.any p=true then .rt r else .fin ()):=by{
 induction l generalizing k with
 | nil=>rfl
 | cons a l ih =>
  rw[forL]
  cases hp:p a
  simp[ih,hp]
  simp[hp]}
theorem zeO{α R:Type}(l:List α)(p:α→Bool)(r:R):
  zG (fun k (_:Unit)=>Option.bind (idx l (k:Int)) fun a=>if p a=true then some (.rt r) else some (.nx ())) l.length 0 ()=some (if l.any p=true then .rt r else .fin ()):=by{rw[← zlX p r l 0];refine zev l _ _ ?_ _;intro k c a b;simp[Jm,b]}
theorem zhz{h g R:Type}{b:Nat→h→Option (Ctl h R)}{b':Nat→g→Option (Ctl g R)}(n:Nat)(Q:R→Prop)(f:Nat→h→g→Prop){s:h}{s':g}(q:f 0 s s')(m:∀k s s',k<n→f k s s'→(∃a,b k s=some (.rt a)∧b' k s'=some (.rt a)∧Q a)∨∃d c,b k s=some (.nx d)∧b' k s'=some (.nx c)∧f (k+1) d c):
  (∃a,zG b n 0 s=some (.rt a)∧zG b' n 0 s'=some (.rt a)∧Q a)∨∃d c,zG b n 0 s=some (.fin d)∧zG b' n 0 s'=some (.fin c)∧f n d c:=by{
 have o:∀e k s s',k+e=n→f k s s'→(∃a,zG b e k s=some (.rt a)∧zG b' e k s'=some (.rt a)∧Q a)∨∃d c,zG b e k s=some (.fin d)∧zG b' e k s'=some (.fin c)∧f n d c:=by
  intro e
  induction e with
  | zero =>
   intro k s s' r i
   obtain rfl:k=n:=by omega
   exact Or.inr ⟨s,s',rfl,rfl,i⟩
  | succ e ih =>
   intro k s s' r i
   rcases m k s s' (by omega) i with ⟨a,j,l,t⟩|⟨d,c,j,l,p⟩
   exact Or.inl ⟨a,by rw[zG,j],by rw[zG,l],t⟩
   rw[zG,zG,j,l]
   exact ih (k+1) d c (by omega) p
 exact o n 0 s s' (by omega) q}
theorem qb{d R:Type}{b:Nat→d→Option (Ctl d R)}(n:Nat)(c:Nat→d→Prop){s:d}(i:c 0 s)(h:∀k s,k<n→c k s→∃a,b k s=some (.nx a)∧c (k+1) a):∃a,zG b n 0 s=some (.fin a)∧c n a:=by{
 obtain⟨g,f,a,rfl,e⟩:=zba (body:=b) n c (fun g=>∃a,g=.fin a∧c n a) i
  (fun k s j e=>by obtain⟨a,h1,h2⟩:=h k s j e;exact⟨_,h1,h2⟩) (fun s f=>⟨s,rfl,f⟩)
 exact⟨a,f,e⟩}
theorem ZP{α:Type}(l:List α)(k:Nat)(a:k<l.length):idx l (k:Int)=some l[k]:=by{rw[Jm,List.getElem?_eq_getElem a]}
theorem zcn{α:Type}(s:List α)(b:α→Bool):
  zG (R:=Int) (fun k (_:Unit)=>Option.bind (idx s (k:Int)) fun a=>Option.bind (some (b a)) fun d=>if d=true then some (.rt (k:Int)) else some (.nx ())) s.length 0 ()=some (match s.findIdx? b with|some i=>.rt (i:Int)|none=>.fin ()):=by{
 have e:∀(c:List α) (k:Nat),forL (R:=Int) (fun k a (_:Unit)=>if b a=true then some (.rt (k:Int)) else some (.nx ())) c k ()=some (match c.findIdx? b with|some i=>.rt ((k+i:Nat):Int)|none=>.fin ()):=by
  intro c
  induction c with
  | nil=>intro k;rfl
  | cons a c ih =>
   intro k
   rw[forL,List.findIdx?_cons]
   cases hq:b a
   simp only[Bool.false_eq_true,if_false]
   rw[ih]
   cases hf:c.findIdx? b with
   | none=>rfl
   | some i=>simp;omega
   simp
 have f:=zev s (R:=Int) (fun k a (_:Unit)=>if b a=true then some (.rt (k:Int)) else some (.nx ())) (fun k _=>Option.bind (idx s (k:Int)) fun a=>Option.bind (some (b a)) fun d=>if d=true then some (.rt (k:Int)) else some (.nx ()))
  (fun k _ a g=>by simp[Jm,g]) ()
 rw[f,e];cases s.findIdx? b with
 | none=>rfl
 | some i=>simp}
theorem zgB{α:Type}(s:List α)(a:α→Bool):decide ((0:Int)≤(match s.findIdx? a with|some i=>(i:Int)|none => -1))=s.any a:=by{
 cases hf:s.findIdx? a with
 | none =>
  have:=List.findIdx?_eq_none_iff.1 hf
  have b:s.any a=false:=by simp;exact fun f c=>by simpa using this f c
  simp[b]
 | some i =>
  obtain⟨d,e,_⟩:=List.findIdx?_eq_some_iff_getElem.1 hf
  have b:s.any a=true:=List.any_eq_true.2 ⟨_,List.getElem_mem d,e⟩
  simp[b]}
theorem zge(a b:Int)(d:0<b):b*a.tdiv b+a.tmod b=a∧(0≤a→0≤a.tdiv b∧0≤a.tmod b∧a.tmod b<b∧a.tdiv b=a / b∧a.tmod b=a % b)∧(a≤0→a.tdiv b≤0∧a.tmod b≤0∧-b<a.tmod b):=by{refine⟨Int.mul_tdiv_add_tmod a b,fun c=>⟨Int.tdiv_nonneg c (by omega),Int.tmod_nonneg b c,Int.tmod_lt_of_pos a d,Int.tdiv_eq_ediv_of_nonneg c,Int.tmod_eq_emod_of_nonneg c⟩,fun c=>?_⟩;have e:0≤(-a).tdiv b:=Int.tdiv_nonneg (by omega) (by omega);have f:0≤(-a).tmod b:=Int.tmod_nonneg b (by omega);have g:=Int.tmod_lt_of_pos (-a) d;rw[Int.neg_tdiv]at e;rw[Int.neg_tmod]at f g;omega}
end Go.Pu
namespace Go.Pu
open Go
def QV{α:Type}(cmp:α→α→Option Int)(x y:α):Bool:=match cmp x y with
 | some c=>decide (c<0)
 | none=>false
structure zhA{α:Type}(cmp:α→α→Option Int)(l:List α):Prop where
 len:l.length<4611686018427387904
 says:∀x∈l,∀y∈l,∃c,cmp x y=some c
 irrefl:∀x∈l,QV cmp x x=false
 trans:∀x∈l,∀y∈l,∀z∈l,QV cmp x y=true→QV cmp y z=true→QV cmp x z=true
 ntrans:∀x∈l,∀y∈l,∀z∈l,QV cmp x y=false→QV cmp y z=false→QV cmp x z=false
 total:∀x∈l,∀y∈l,QV cmp x y=false→QV cmp y x=false→x=y
open Classical in
noncomputable def zbx{α:Type}(cmp:α→α→Option Int)(l:List α):Option (List α):=if zhA cmp l then some (l.mergeSort fun x y=>!(QV cmp y x)) else none
theorem zhE{α:Type}{b:α→α→Option Int}{l r:List α}(a:zbx b l=some r):zhA b l∧r=l.mergeSort fun c d=>!(QV b d c):=by{unfold zbx at a;split at a;rename_i h1;exact⟨h1,(Option.some.inj a).symm⟩;cases a}
def bytesOf(l:List ByteArray):List (List UInt8):=l.map (·.data.toList)
def strsOf(l:List (List UInt8)):List ByteArray:=l.map fun b=>⟨b.toArray⟩
end Go.Pu
namespace Go.Pu
open Go
inductive AnyV where
 | str (b:ByteArray)
 | int (n:Int)
def AnyV.asStr:AnyV→ByteArray×Bool
 | .str b=>(b,true)
 | .int _=>(ByteArray.empty,false)
def AnyV.asInt:AnyV→Int×Bool
 | .str _=>(0,false)
 | .int n=>(n,true)
def AnyV.val(ts ti:TypeId):AnyV→Value
 | .str b=>.iface ts (.string b)
 | .int n=>.iface ti (.int .i64 n)
def zp{κ α:Type}[DecidableEq κ]:List (κ×α)→κ→Option α
 | [],_=>none
 | p::l,k=>if p.1=k then some p.2 else zp l k
open Classical in
noncomputable def Qt{κ α:Type}[DecidableEq κ](l:List (κ×α))(k:κ)(v:α):List (κ×α):=if ∃p∈l,p.1=k then l.map (fun q=>if q.1=k then (k,v) else q) else l++[(k,v)]
structure Fmap(κ α:Type)where
 l:List (κ×α)
def bytesL(s:ByteArray):Option (List UInt8):=if s.size≤2^63-1 then some s.data.toList else none
end Go.Pu
namespace Go.Pu
open Go
set_option linter.unusedSimpArgs false
set_option linter.unusedVariables false
def bitsI(op:BinOp)(k:IntKind)(p q:Int):Int :=
 match op with
 | .and=>k.wrap (BitVec.ofInt k.bits p &&& BitVec.ofInt k.bits q).toNat
 | .or=>k.wrap (BitVec.ofInt k.bits p ||| BitVec.ofInt k.bits q).toNat
 | .xor=>k.wrap (BitVec.ofInt k.bits p ^^^ BitVec.ofInt k.bits q).toNat
 | .andNot=>k.wrap (BitVec.ofInt k.bits p &&& ~~~(BitVec.ofInt k.bits q)).toNat
 | _=>0
def quoK(k:IntKind)(a b:Int):Option Int:=if b=0 then none else some (k.wrap (a.tdiv b))
def remK(k:IntKind)(a b:Int):Option Int:=if b=0 then none else some (a.tmod b)
def winL(l:List Int)(lo hi:Int):Option (List Int):=if 0≤lo∧lo<hi∧hi≤(l.length:Int) then some ((l.take hi.toNat).drop lo.toNat) else none
def winS(l:List Int)(lo hi:Int)(m:List Int):List Int:=l.take lo.toNat++m++l.drop hi.toNat
end Go.Pu
namespace Go.Pu
open Go
def ZA{κ α:Type}[DecidableEq κ](l:List (κ×α))(k:κ):List (κ×α):=l.filter fun p=>decide (p.1≠k)
def allT{κ α:Type}(l:List (κ×α)):List (κ×Bool):=l.map fun p=>(p.1,true)
structure Rmap(κ α:Type)where
 l:List (κ×α)
end Go.Pu
