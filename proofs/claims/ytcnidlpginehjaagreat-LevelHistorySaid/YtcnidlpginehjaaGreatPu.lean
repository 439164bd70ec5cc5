import GoSem.Core.View
import GoSem.ClaimData
import Derived.Lib.Join
namespace Go.Pu
open Go
set_option linter.unusedSimpArgs false
set_option linter.unusedVariables false
def w64(n:Int):Int:=IntKind.i64.wrap n
theorem Jy{n:Int}(b : -9223372036854775808≤n)(a:n≤9223372036854775807):w64 n=n:=by{unfold w64;simp only[IntKind.wrap,IntKind.bits,IntKind.signed];simp;split <;> omega}
def idx{α:Type}(l:List α)(i:Int):Option α:=if 0≤i then l[i.toNat]? else none
def setI{α:Type}(l:List α)(i:Int)(x:α):Option (List α) :=
 if 0≤i∧i.toNat<l.length then some (l.set i.toNat x) else none
def optE{α:Type}(l:List α)(i:Int):Option (Option α):=if i<0 then some none else (idx l i).map some
def Zc{α:Type}(lim:Nat)(l m:List α):Option (List α):=if l.length+m.length≤lim then some (l++m) else none
def JC{α:Type}(lim:Nat)(k:Int)(z:α):Option (List α):=if 0≤k∧k.toNat≤lim then some (List.replicate k.toNat z) else none
def toU32(x:Int):UInt32:=UInt32.ofNat (IntKind.u32.wrap x).toNat
def toU8(x:Int):UInt8:=UInt8.ofNat (IntKind.u8.wrap x).toNat
def makeC{α:Type}(lim:Nat)(k c:Int)(z:α):Option (List α):=if 0≤k∧k≤c∧c.toNat≤lim then some (List.replicate k.toNat z) else none
def jR{α:Type}(l m:List α):List α:=m.take l.length++l.drop m.length
def quo(a b:Int):Option Int:=if b=0 then none else some (w64 (a.tdiv b))
def rem(a b:Int):Option Int:=if b=0 then none else some (a.tmod b)
def shl(k:IntKind)(x y:Int):Option Int:=if y<0 then none else some (k.wrap (x*2^(min y.toNat k.bits)))
def shr(k:IntKind)(x y:Int):Option Int:=if y<0 then none else some (x.fdiv (2^(min y.toNat k.bits)))
def idxS(s:ByteArray)(i:Int):Option UInt8:=if 0≤i then s[i.toNat]? else none
def catS(s u:ByteArray):Option ByteArray:=if ((s.size+u.size:Nat):Int)>IntKind.i64.max then none else some (s++u)
def strLt(s u:ByteArray):Bool:=Op.bytesLess s.toList u.toList
def ZU(s u:ByteArray):Bool:=s.toList==u.toList
def zeB(n:Nat)(lo hi:Option Int):Option (Nat×Nat) :=
 let h:=hi.getD n
 let l:=lo.getD 0
 if 0≤h∧h≤n∧0≤l∧l≤h then some (l.toNat,h.toNat) else none
def sliceS(s:ByteArray)(lo hi:Option Int):Option ByteArray:=(zeB s.size lo hi).map fun p=>s.extract p.1 p.2
def jH{α:Type}(s:List α)(lo hi:Option Int):Option (List α):=(zeB s.length lo hi).map fun p=>(s.take p.2).drop p.1
def zei:List UInt8→UInt8→Int
 | [],_ => -1
 | b::l,c=>if b==c then 0 else if zei l c == -1 then -1 else zei l c+1
def indexByteS(s:ByteArray)(c:Int):Int:=zei s.toList c.toNat.toUInt8
inductive Ctl (S R:Type) where
 | nx (s:S)
 | bk (s:S)
 | rt (r:R)
inductive Lp (S R:Type) where
 | fin (s:S)
 | rt (r:R)
def Lp.andThen{S R T:Type}(o:Lp S R)(g:R→Option T)(f:S→Option T):Option T :=
 match o with
 | .fin s=>f s
 | .rt r=>g r
theorem Lp.andThen_fin{a R T:Type}{s:a}{g:R→Option T}{f:a→Option T}:(Lp.fin s).andThen g f=f s:=rfl
theorem Lp.andThen_rt{a R T:Type}{r:R}{g:R→Option T}{f:a→Option T}:(Lp.rt r).andThen g f=g r:=rfl
def Zx{S R:Type}(body:Nat→S→Option (Ctl S R)):Nat→Nat→S→Option (Lp S R)
 | 0,_,s=>some (.fin s)
 | m+1,k,s =>
  match body k s with
  | none=>none
  | some (.nx s')=>Zx body m (k+1) s'
  | some (.bk s')=>some (.fin s')
  | some (.rt r)=>some (.rt r)
def Jw{S R:Type}(body:S→Option (Ctl S R)):Nat→S→Option (Lp S R)
 | 0,_=>none
 | n+1,s =>
  match body s with
  | none=>none
  | some (.nx s')=>Jw body n s'
  | some (.bk s')=>some (.fin s')
  | some (.rt r)=>some (.rt r)
theorem zhI{a R:Type}{body:a→Option (Ctl a R)}{n:Nat}{s:a}{r:Lp a R}(b:Jw body n s=some r):Jw body (n+1) s=some r:=by{
 induction n generalizing s with
 | zero=>simp[Jw]at b
 | succ n ih =>
  rw[Jw]at b⊢
  split <;> simp_all}
theorem zgm{a R:Type}{body:a→Option (Ctl a R)}{n b:Nat}(c:n≤b){s:a}{r:Lp a R}(d:Jw body n s=some r):Jw body b s=some r:=by{
 induction c with
 | refl=>exact d
 | step _ ih=>exact zhI ih}
open Classical in
noncomputable def zbK{S R:Type}(body:S→Option (Ctl S R))(s:S):Option (Lp S R) :=
 if h:∃n r,Jw body n s=some r then some h.choose_spec.choose else none
theorem zfO{d R:Type}{body:d→Option (Ctl d R)}{s:d}{r:Lp d R}:zbK body s=some r↔∃a,Jw body a s=some r:=by{unfold zbK;constructor;intro c;split at c;rename_i b;have:=b.choose_spec.choose_spec;rw[Option.some.inj c]at this;exact⟨_,this⟩;cases c;rintro⟨a,c⟩;have b:∃a r,Jw body a s=some r:=⟨a,r,c⟩;rw[dif_pos b];have f:=b.choose_spec.choose_spec;have g:=zgm (Nat.le_max_left b.choose a) f;have e:=zgm (Nat.le_max_right b.choose a) c;rw[g]at e;exact e}
theorem zdr{b R:Type}{body:b→Option (Ctl b R)}(d:b→Prop)(μ:b→Nat)(Q:Lp b R→Prop){s:b}(k:d s)(i:∀s,d s→∃e,body s=some e∧match e with
   | .nx s'=>d s'∧μ s'<μ s
   | .bk s'=>Q (.fin s')
   | .rt a=>Q (.rt a)):∃a,zbK body s=some a∧Q a:=by{
 have j:∀c s,μ s<c→d s→∃a,Jw body c s=some a∧Q a:=by
  intro c
  induction c with
  | zero=>intro s h;omega
  | succ c ih =>
   intro s n l
   obtain⟨e,m,hp⟩:=i s l
   rw[Jw,m]
   cases e with
   | nx s' =>
    obtain⟨a,f,g⟩:=ih s' (by have:=hp.2;omega) hp.1
    exact⟨a,f,g⟩
   | bk s'=>exact⟨_,rfl,hp⟩
   | rt a=>exact⟨_,rfl,hp⟩
 obtain⟨a,f,g⟩:=j (μ s+1) s (by omega) k;exact⟨a,zfO.2 ⟨_,f⟩,g⟩}
theorem zdA{c R:Type}{body:Nat→c→Option (Ctl c R)}(n:Nat)(d:Nat→c→Prop)(Q:Lp c R→Prop){s:c}(k:d 0 s)(h:∀a s,a<n→d a s→∃f,body a s=some f∧match f with
   | .nx s'=>d (a+1) s'
   | .bk s'=>Q (.fin s')
   | .rt b=>Q (.rt b))(i:∀s,d n s→Q (.fin s)):∃b,Zx body n 0 s=some b∧Q b:=by{
 have j:∀e a s,a+e=n→d a s→∃b,Zx body e a s=some b∧Q b:=by
  intro e
  induction e with
  | zero =>
   intro a s l g
   obtain rfl:a=n:=by omega
   exact⟨_,rfl,i s g⟩
  | succ e ih =>
   intro a s l g
   obtain⟨f,m,hp⟩:=h a s (by omega) g
   rw[Zx,m]
   cases f with
   | nx s'=>exact ih (a+1) s' (by omega) hp
   | bk s'=>exact⟨_,rfl,hp⟩
   | rt b=>exact⟨_,rfl,hp⟩
 exact j n 0 s (by omega) k}
def yieldB{X S:Type}(bd:X→S→Option (S×Option Nat))(x:X)(z:S×Option Nat):Option (Bool×(S×Option Nat)) :=
 Option.bind (if z.2.isNone then bd x z.1 else none) fun r=>some (r.2.isNone,r)
end Go.Pu
namespace Go.Pu
open Go
set_option linter.unusedSimpArgs false
set_option linter.unusedVariables false
theorem zbg{α:Type}(l:List α)(k:Nat):idx l (k:Int)=l[k]?:=by{simp[idx]}
theorem zfT{α:Type}{l:List α}{i:Int}(c:0≤i)(d:i<l.length):∃a,idx l i=some a∧l[i.toNat]?=some a:=by{
 have b:i.toNat<l.length:=by omega
 exact⟨l[i.toNat],by simp[idx,c,b],by simp[b]⟩}
def forL{α S R:Type}(body:Nat→α→S→Option (Ctl S R)):List α→Nat→S→Option (Lp S R)
 | [],_,s=>some (.fin s)
 | x::l,k,s =>
  match body k x s with
  | none=>none
  | some (.nx s')=>forL body l (k+1) s'
  | some (.bk s')=>some (.fin s')
  | some (.rt r)=>some (.rt r)
theorem zdB{α S R:Type}(l:List α)(body:Nat→α→S→Option (Ctl S R))(b:Nat→S→Option (Ctl S R))(h:∀a s c,l[a]?=some c→b a s=body a c s)(s:S):Zx b l.length 0 s=forL body l 0 s:=by{
 have g:∀(e:List α) (a:Nat) (s:S),(∀d c,e[d]?=some c→l[a+d]?=some c)→Zx b e.length a s=forL body e a s:=by
  intro e
  induction e with
  | nil=>intro a s _;rfl
  | cons c e ih =>
   intro a s f
   rw[List.length_cons,Zx,forL,h a s c (f 0 c rfl)]
   rcases hbx:body a c s with _|(i|i|m) <;> simp only
   exact ih _ _ fun d k j=>by
    have:=f (d+1) k (by simpa using j)
    rw[show a+1+d=a+(d+1) by omega]
    exact this
 exact g l 0 s fun d c f=>by rw[Nat.zero_add];exact f}
theorem zjd{α R:Type}(p:α→Bool)(r:R)(l:List α)(k:Nat):
  forL (fun _ a (_:Unit)=>if p a=true then some (.rt r) else some (.nx ())) l k ()=some (if l.any p=true then .rt r else .fin ()):=by{
 induction l generalizing k with
 | nil=>rfl
 | cons a l ih =>
  rw[forL]
  cases hp:p a
  simp[ih,hp]
  simp[hp]}
theorem zdP{α R:Type}(l:List α)(p:α→Bool)(r:R):
  Zx (fun k (_:Unit)=>Option.bind (idx l (k:Int)) fun a=>if p a=true then some (.rt r) else some (.nx ())) l.length 0 ()=some (if l.any p=true then .rt r else .fin ()):=by{rw[← zjd p r l 0];refine zdB l _ _ ?_ _;intro k c a b;simp[zbg,b]}
theorem zdV{i h R:Type}{b:Nat→i→Option (Ctl i R)}{b':Nat→h→Option (Ctl h R)}(n:Nat)(Q:R→Prop)(g:Nat→i→h→Prop){s:i}{s':h}(q:g 0 s s')(m:∀a s s',a<n→g a s s'→(∃c,b a s=some (.rt c)∧b' a s'=some (.rt c)∧Q c)∨∃e d,b a s=some (.nx e)∧b' a s'=some (.nx d)∧g (a+1) e d):
  (∃c,Zx b n 0 s=some (.rt c)∧Zx b' n 0 s'=some (.rt c)∧Q c)∨∃e d,Zx b n 0 s=some (.fin e)∧Zx b' n 0 s'=some (.fin d)∧g n e d:=by{
 have o:∀f a s s',a+f=n→g a s s'→(∃c,Zx b f a s=some (.rt c)∧Zx b' f a s'=some (.rt c)∧Q c)∨∃e d,Zx b f a s=some (.fin e)∧Zx b' f a s'=some (.fin d)∧g n e d:=by
  intro f
  induction f with
  | zero =>
   intro a s s' r j
   obtain rfl:a=n:=by omega
   exact Or.inr ⟨s,s',rfl,rfl,j⟩
  | succ f ih =>
   intro a s s' r j
   rcases m a s s' (by omega) j with ⟨c,k,l,t⟩|⟨e,d,k,l,p⟩
   exact Or.inl ⟨c,by rw[Zx,k],by rw[Zx,l],t⟩
   rw[Zx,Zx,k,l]
   exact ih (a+1) e d (by omega) p
 exact o n 0 s s' (by omega) q}
theorem JA{e R:Type}{b:Nat→e→Option (Ctl e R)}(n:Nat)(c:Nat→e→Prop){s:e}(j:c 0 s)(i:∀d s,d<n→c d s→∃a,b d s=some (.nx a)∧c (d+1) a):∃a,Zx b n 0 s=some (.fin a)∧c n a:=by{
 obtain⟨h,g,a,rfl,f⟩:=zdA (body:=b) n c (fun h=>∃a,h=.fin a∧c n a) j
  (fun d s k f=>by obtain⟨a,h1,h2⟩:=i d s k f;exact⟨_,h1,h2⟩) (fun s g=>⟨s,rfl,g⟩)
 exact⟨a,g,f⟩}
theorem jD{α:Type}(l:List α)(k:Nat)(a:k<l.length):idx l (k:Int)=some l[k]:=by{rw[zbg,List.getElem?_eq_getElem a]}
theorem zcQ{α:Type}(s:List α)(b:α→Bool):
  Zx (R:=Int) (fun k (_:Unit)=>Option.bind (idx s (k:Int)) fun a=>Option.bind (some (b a)) fun d=>if d=true then some (.rt (k:Int)) else some (.nx ())) s.length 0 ()=some (match s.findIdx? b with|some i=>.rt (i:Int)|none=>.fin ()):=by{
 have e:∀(c:List α) (k:Nat),forL (R:=Int) (fun k a (_:Unit)=>if b a=true then some (.rt (k:Int)) else some (.nx ())) c k ()=some (match c.findIdx? b with|some i=>.rt ((k+i:Nat):Int)|none=>.fin ()):=by
  intro c
  induction c with
  | nil=>intro k;rfl
  | cons a c ih =>
   intro k
   rw[forL,List.findIdx?_cons]
   cases hq:b a
   simp only[Bool.false_eq_true,if_false]
   rw[ih]
   cases hf:c.findIdx? b with
   | none=>rfl
   | some i=>simp;omega
   simp
 have f:=zdB s (R:=Int) (fun k a (_:Unit)=>if b a=true then some (.rt (k:Int)) else some (.nx ())) (fun k _=>Option.bind (idx s (k:Int)) fun a=>Option.bind (some (b a)) fun d=>if d=true then some (.rt (k:Int)) else some (.nx ()))
  (fun k _ a g=>by simp[zbg,g]) ()
 rw[f,e];cases s.findIdx? b with
 | none=>rfl
 | some i=>simp}
theorem zfm{α:Type}(s:List α)(a:α→Bool):decide ((0:Int)≤(match s.findIdx? a with|some i=>(i:Int)|none => -1))=s.any a:=by{
 cases hf:s.findIdx? a with
 | none =>
  have:=List.findIdx?_eq_none_iff.1 hf
  have b:s.any a=false:=by simp;exact fun f c=>by simpa using this f c
  simp[b]
 | some i =>
  obtain⟨d,e,_⟩:=List.findIdx?_eq_some_iff_getElem.1 hf
  have b:s.any a=true:=List.any_eq_true.2 ⟨_,List.getElem_mem d,e⟩
  simp[b]}
end Go.Pu
namespace Go.Pu
open Go
def zck{α:Type}(cmp:α→α→Option Int)(x y:α):Bool:=match cmp x y with
 | some c=>decide (c<0)
 | none=>false
structure zjZ{α:Type}(cmp:α→α→Option Int)(l:List α):Prop where
 len:l.length<4611686018427387904
 says:∀x∈l,∀y∈l,∃c,cmp x y=some c
 irrefl:∀x∈l,zck cmp x x=false
 trans:∀x∈l,∀y∈l,∀z∈l,zck cmp x y=true→zck cmp y z=true→zck cmp x z=true
 ntrans:∀x∈l,∀y∈l,∀z∈l,zck cmp x y=false→zck cmp y z=false→zck cmp x z=false
 total:∀x∈l,∀y∈l,zck cmp x y=false→zck cmp y x=false→x=y
open Classical in
noncomputable def sortFuncL{α:Type}(cmp:α→α→Option Int)(l:List α):Option (List α):=if zjZ cmp l then some (l.mergeSort fun x y=>!(zck cmp y x)) else none
def bytesOf(l:List ByteArray):List (List UInt8):=l.map (·.data.toList)
def strsOf(l:List (List UInt8)):List ByteArray:=l.map fun b=>⟨b.toArray⟩
end Go.Pu
namespace Go.Pu
open Go
inductive AnyV where
 | str (b:ByteArray)
 | int (n:Int)
def AnyV.asStr:AnyV→ByteArray×Bool
 | .str b=>(b,true)
 | .int _=>(ByteArray.empty,false)
def AnyV.asInt:AnyV→Int×Bool
 | .str _=>(0,false)
 | .int n=>(n,true)
def AnyV.val(ts ti:TypeId):AnyV→Value
 | .str b=>.iface ts (.string b)
 | .int n=>.iface ti (.int .i64 n)
def zy{κ α:Type}[DecidableEq κ]:List (κ×α)→κ→Option α
 | [],_=>none
 | p::l,k=>if p.1=k then some p.2 else zy l k
open Classical in
noncomputable def qR{κ α:Type}[DecidableEq κ](l:List (κ×α))(k:κ)(v:α):List (κ×α):=if ∃p∈l,p.1=k then l.map (fun q=>if q.1=k then (k,v) else q) else l++[(k,v)]
structure Fmap(κ α:Type)where
 l:List (κ×α)
def bytesL(s:ByteArray):Option (List UInt8):=if s.size≤2^63-1 then some s.data.toList else none
end Go.Pu
namespace Go.Pu
open Go
set_option linter.unusedSimpArgs false
set_option linter.unusedVariables false
def bitsI(op:BinOp)(k:IntKind)(p q:Int):Int :=
 match op with
 | .and=>k.wrap (BitVec.ofInt k.bits p &&& BitVec.ofInt k.bits q).toNat
 | .or=>k.wrap (BitVec.ofInt k.bits p ||| BitVec.ofInt k.bits q).toNat
 | .xor=>k.wrap (BitVec.ofInt k.bits p ^^^ BitVec.ofInt k.bits q).toNat
 | .andNot=>k.wrap (BitVec.ofInt k.bits p &&& ~~~(BitVec.ofInt k.bits q)).toNat
 | _=>0
def quoK(k:IntKind)(a b:Int):Option Int:=if b=0 then none else some (k.wrap (a.tdiv b))
def remK(k:IntKind)(a b:Int):Option Int:=if b=0 then none else some (a.tmod b)
def winL(l:List Int)(lo hi:Int):Option (List Int):=if 0≤lo∧lo<hi∧hi≤(l.length:Int) then some ((l.take hi.toNat).drop lo.toNat) else none
def winS(l:List Int)(lo hi:Int)(m:List Int):List Int:=l.take lo.toNat++m++l.drop hi.toNat
end Go.Pu
namespace Go.Pu
open Go
def qh{κ α:Type}[DecidableEq κ](l:List (κ×α))(k:κ):List (κ×α):=l.filter fun p=>decide (p.1≠k)
def allT{κ α:Type}(l:List (κ×α)):List (κ×Bool):=l.map fun p=>(p.1,true)
structure Rmap(κ α:Type)where
 l:List (κ×α)
end Go.Pu
