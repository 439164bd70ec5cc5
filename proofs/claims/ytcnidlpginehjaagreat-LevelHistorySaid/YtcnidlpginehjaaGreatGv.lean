import Derived.Test.YtcnidlpginehjaaGreatGe
import Derived.Test.YtcnidlpginehjaaGreatPu
namespace Go.Gw
open Go Go.RowKit Go.Pu
set_option linter.unusedSimpArgs false
set_option linter.unusedVariables false
section steps
variable{P:Program}{n:Fr}{E:Env}{w:World}{v:Value}
variable{ty t t2:TypeId}{pos:String}{af:Array Edge}{x y:Operand}{p q:Int}{k:IntKind}{ρd:Option Nat}{g:Option (Nat×Bool)}
end steps
section slices
variable{α:Type}[GoT α]{A:Nat→Prop}{w:World}{v u:Value}{l r:List α}
theorem zgv:∀{l:List α} {cs:List Value} (k:Nat),repL A w cs l→repL A w (cs.drop (k*GoT.cells α)) (l.drop k)
 | l,cs,0,h=>by simpa using h
 | [],cs,k+1,h=>by
  have:cs=[]:=h
  subst this
  simp
  rfl
 | x::l,cs,k+1,h=>by
  obtain⟨d,e,rfl,b,c⟩:=h
  have a:=GoT.len b
  have:=zgv k c
  rw[List.drop_append,List.drop_eq_nil_of_le (by rw[a,Nat.succ_mul];omega),List.nil_append,a,Nat.succ_mul,Nat.add_sub_cancel]
  exact this
theorem zgr:∀{l:List α} {cs:List Value} (k:Nat),repL A w cs l→repL A w (cs.take (k*GoT.cells α)) (l.take k)
 | l,cs,0,h=>by simp;rfl
 | [],cs,k+1,h=>by
  have:cs=[]:=h
  subst this
  simp
  rfl
 | x::l,cs,k+1,h=>by
  obtain⟨c,d,rfl,a,e⟩:=h
  have b:=GoT.len a
  refine⟨c,d.take (k*GoT.cells α),?_,a,zgr k e⟩
  rw[List.take_append,List.take_of_length_le (by rw[b,Nat.succ_mul];omega),b,Nat.succ_mul,Nat.add_sub_cancel]
theorem At.dropK{b off:Nat}{cs:List Value}(c:At w b off cs)(k:Nat):At w b (off+k) (cs.drop k):=by{intro d x a;rw[List.getElem?_drop]at a;have:=c (k+d) x a;rwa[← Nat.add_assoc]at this}
theorem At.takeK{b off:Nat}{cs:List Value}(c:At w b off cs)(k:Nat):At w b off (cs.take k):=by{intro d x a;rw[List.getElem?_take]at a;split at a;exact c d x a;cases a}
def zhj(sz:Nat)(v:Value)(lo hi:Option Int)(u:Value):Prop :=
 ∃(a:Option Addr) (len cap l h:Nat),v=.slice a len cap∧lo.getD 0=(l:Int)∧hi.getD (len:Int)=(h:Int)∧l≤h∧h≤len∧len≤cap∧u=.slice (if cap=l then a else a.map (·.add (l*sz))) (h-l) (cap-l)
theorem Jc{e hi:Option Int}(b:jH l e hi=some r)(E:Sl A w v l):∃u,Sl A w u r∧zhj (GoT.cells α) v e hi u:=by{
 unfold jH zeB at b;simp only at b;split at b;case isFalse=>simp at b
 rename_i hb;simp only[Option.map_some,Option.some.injEq]at b;subst b;obtain⟨k,f,m,n⟩:=hb;generalize o:e.getD 0=lz at k f m n ⊢;generalize j:hi.getD (l.length:Int)=hz at k f m n ⊢;rcases E with ⟨c,a,rfl,rfl,g,h⟩|⟨d,off,a,t,rfl,g,h,x,F,y,z⟩;simp only[List.length_nil]at f j;have p:hz=0:=by omega
 have q:lz=0:=by omega
 subst p;subst q;refine⟨_,.inl ⟨if a=0 then c else c.map (·.add (0*GoT.cells α)),a,rfl,by simp,g,?_⟩,c,0,a,0,0,rfl,by simpa using o,by simpa using j,Nat.le_refl _,Nat.le_refl _,Nat.zero_le _,by simp⟩;split;rename_i hc;exact fun _=>hc;intro B
 exact h (by cases c with
  | none=>rfl
  | some c=>simp at B)
 refine⟨.slice (if a=lz.toNat then some ⟨d,off,none⟩ else (some (⟨d,off,none⟩:Addr)).map (·.add (lz.toNat*GoT.cells α))) (hz.toNat-lz.toNat) (a-lz.toNat),?_,some ⟨d,off,none⟩,l.length,a,lz.toNat,hz.toNat,rfl,by omega,by omega,by omega,by omega,x,rfl⟩;by_cases D:hz.toNat-lz.toNat=0;refine .inl ⟨_,a-lz.toNat,by rw[D],?_,by omega,?_⟩;rw[List.drop_eq_nil_iff,List.length_take];omega;split <;> simp
 have s:¬a=lz.toNat:=by omega
 have i:((l.take hz.toNat).drop lz.toNat).length=hz.toNat-lz.toNat:=by
  rw[List.length_drop,List.length_take];omega
 refine .inr ⟨d,off+lz.toNat*GoT.cells α,a-lz.toNat,(t.take (hz.toNat*GoT.cells α)).drop (lz.toNat*GoT.cells α),?_,g,h,by rw[i];omega,by omega,zgv _ (zgr _ y),(z.takeK _).dropK _⟩;rw[if_neg s,i];simp[Addr.add]}
variable{P:Program}{n:Fr}{E:Env}{ty t e:TypeId}{pos:String}{af:Array Edge}{x y z:Operand}{ρd:Option Nat}{g:Option (Nat×Bool)}{sz:Nat}
theorem zaW{k:IntKind}{hi:Int}(d:zhj sz v none (some hi) u)(f:P.underlying t=some (.slice e))(h:∀w,(Go.sizeOf e).run P w=.ok sz w)(i:ev E x=some v)(j:ev E z=some (.int k hi)):Y P n E ⟨ρd,.slice t x none (some z) none,ty,pos,af,g⟩ w u w:=by{
 intro A a;obtain⟨q,len,c,l,p,rfl,m,b,r,s,y,rfl⟩:=d;simp only[Option.getD_none,Option.getD_some]at m b;obtain rfl:l=0:=by omega
 subst b;have o:¬c<p:=by omega
 simp[execOp,a.eval i,a.eval j,Instr.sliceAt,Instr.slice,Instr.sliceBounds,Instr.sliceBound,asIntOf,underlying,f,h,o]}
theorem zeP{k:IntKind}{a:Int}(f:zhj sz v (some a) none u)(h:P.underlying t=some (.slice e))(i:∀w,(Go.sizeOf e).run P w=.ok sz w)(j:ev E x=some v)(m:ev E y=some (.int k a)):Y P n E ⟨ρd,.slice t x (some y) none none,ty,pos,af,g⟩ w u w:=by{
 intro B b;obtain⟨r,len,q,l,d,rfl,c,o,s,z,A,rfl⟩:=f;simp only[Option.getD_none,Option.getD_some]at c o;obtain rfl:d=len:=by omega
 subst c;have p:¬d<l:=by omega
 simp[execOp,b.eval j,b.eval m,Instr.sliceAt,Instr.slice,Instr.sliceBounds,Instr.sliceBound,asIntOf,underlying,h,i,p]}
end slices
end Go.Gw
