import Derived.Test.YtligccioljhapaaGreatDoorGe
import Derived.Test.YtligccioljhapaaGreatDoorPu
namespace Go.Gw
open Go Go.RowKit Go.Pu
set_option linter.unusedSimpArgs false
set_option linter.unusedVariables false
section steps
variable{P:Program}{n:Fr}{E:Env}{w:World}{v:Value}
variable{ty t t2:TypeId}{pos:String}{af:Array Edge}{x y:Operand}{p q:Int}{k:IntKind}{ρd:Option Nat}{g:Option (Nat×Bool)}
end steps
section slices
variable{α:Type}[GoT α]{A:Nat→Prop}{w:World}{v u:Value}{l r:List α}
theorem zhZ:∀{l:List α} {cs:List Value} (k:Nat),repL A w cs l→repL A w (cs.drop (k*GoT.cells α)) (l.drop k)
 | l,cs,0,h=>by simpa using h
 | [],cs,k+1,h=>by
  have:cs=[]:=h
  subst this
  simp
  rfl
 | x::l,cs,k+1,h=>by
  obtain⟨d,e,rfl,b,c⟩:=h
  have a:=GoT.len b
  have:=zhZ k c
  rw[List.drop_append,List.drop_eq_nil_of_le (by rw[a,Nat.succ_mul];omega),List.nil_append,a,Nat.succ_mul,Nat.add_sub_cancel]
  exact this
theorem zfT:∀{l:List α} {cs:List Value} (k:Nat),repL A w cs l→repL A w (cs.take (k*GoT.cells α)) (l.take k)
 | l,cs,0,h=>by simp;rfl
 | [],cs,k+1,h=>by
  have:cs=[]:=h
  subst this
  simp
  rfl
 | x::l,cs,k+1,h=>by
  obtain⟨c,d,rfl,a,e⟩:=h
  have b:=GoT.len a
  refine⟨c,d.take (k*GoT.cells α),?_,a,zfT k e⟩
  rw[List.take_append,List.take_of_length_le (by rw[b,Nat.succ_mul];omega),b,Nat.succ_mul,Nat.add_sub_cancel]
theorem At.dropK{b off:Nat}{cs:List Value}(c:At w b off cs)(k:Nat):At w b (off+k) (cs.drop k):=by{intro d x a;rw[List.getElem?_drop]at a;have:=c (k+d) x a;rwa[← Nat.add_assoc]at this}
theorem At.takeK{b off:Nat}{cs:List Value}(c:At w b off cs)(k:Nat):At w b off (cs.take k):=by{intro d x a;rw[List.getElem?_take]at a;split at a;exact c d x a;cases a}
def zje(sz:Nat)(v:Value)(lo hi:Option Int)(u:Value):Prop :=
 ∃(a:Option Addr) (len cap l h:Nat),v=.slice a len cap∧lo.getD 0=(l:Int)∧hi.getD (len:Int)=(h:Int)∧l≤h∧h≤len∧len≤cap∧u=.slice (if cap=l then a else a.map (·.add (l*sz))) (h-l) (cap-l)
theorem zak{lo hi:Option Int}(b:jE l lo hi=some r)(E:Sl A w v l):∃u,Sl A w u r∧zje (GoT.cells α) v lo hi u:=by{
 unfold jE zfI at b;simp only at b;split at b;case isFalse=>simp at b
 rename_i hb;simp only[Option.map_some,Option.some.injEq]at b;subst b;obtain⟨j,e,m,n⟩:=hb;generalize o:lo.getD 0=lz at j e m n ⊢;generalize i:hi.getD (l.length:Int)=hz at j e m n ⊢;rcases E with ⟨c,a,rfl,rfl,f,g⟩|⟨d,off,a,t,rfl,f,g,x,F,y,z⟩;simp only[List.length_nil]at e i;have p:hz=0:=by omega
 have q:lz=0:=by omega
 subst p;subst q;refine⟨_,.inl ⟨if a=0 then c else c.map (·.add (0*GoT.cells α)),a,rfl,by simp,f,?_⟩,c,0,a,0,0,rfl,by simpa using o,by simpa using i,Nat.le_refl _,Nat.le_refl _,Nat.zero_le _,by simp⟩;split;rename_i hc;exact fun _=>hc;intro B
 exact g (by cases c with
  | none=>rfl
  | some c=>simp at B)
 refine⟨.slice (if a=lz.toNat then some ⟨d,off,none⟩ else (some (⟨d,off,none⟩:Addr)).map (·.add (lz.toNat*GoT.cells α))) (hz.toNat-lz.toNat) (a-lz.toNat),?_,some ⟨d,off,none⟩,l.length,a,lz.toNat,hz.toNat,rfl,by omega,by omega,by omega,by omega,x,rfl⟩;by_cases D:hz.toNat-lz.toNat=0;refine .inl ⟨_,a-lz.toNat,by rw[D],?_,by omega,?_⟩;rw[List.drop_eq_nil_iff,List.length_take];omega;split <;> simp
 have s:¬a=lz.toNat:=by omega
 have h:((l.take hz.toNat).drop lz.toNat).length=hz.toNat-lz.toNat:=by
  rw[List.length_drop,List.length_take];omega
 refine .inr ⟨d,off+lz.toNat*GoT.cells α,a-lz.toNat,(t.take (hz.toNat*GoT.cells α)).drop (lz.toNat*GoT.cells α),?_,f,g,by rw[h];omega,by omega,zhZ _ (zfT _ y),(z.takeK _).dropK _⟩;rw[if_neg s,h];simp[Addr.add]}
variable{P:Program}{n:Fr}{E:Env}{ty t e:TypeId}{pos:String}{af:Array Edge}{x y z:Operand}{ρd:Option Nat}{g:Option (Nat×Bool)}{sz:Nat}
theorem zcR{k:IntKind}{hi:Int}(d:zje sz v none (some hi) u)(f:P.underlying t=some (.slice e))(h:∀w,(Go.sizeOf e).run P w=.ok sz w)(i:ev E x=some v)(j:ev E z=some (.int k hi)):Y P n E ⟨ρd,.slice t x none (some z) none,ty,pos,af,g⟩ w u w:=by{
 intro A a;obtain⟨q,len,c,l,p,rfl,m,b,r,s,y,rfl⟩:=d;simp only[Option.getD_none,Option.getD_some]at m b;obtain rfl:l=0:=by omega
 subst b;have o:¬c<p:=by omega
 simp[execOp,a.eval i,a.eval j,Instr.sliceAt,Instr.slice,Instr.sliceBounds,Instr.sliceBound,asIntOf,underlying,f,h,o]}
theorem zcW{k:IntKind}{lo:Int}(d:zje sz v (some lo) none u)(f:P.underlying t=some (.slice e))(h:∀w,(Go.sizeOf e).run P w=.ok sz w)(i:ev E x=some v)(j:ev E y=some (.int k lo)):Y P n E ⟨ρd,.slice t x (some y) none none,ty,pos,af,g⟩ w u w:=by{
 intro A a;obtain⟨q,len,p,l,c,rfl,b,m,r,s,z,rfl⟩:=d;simp only[Option.getD_none,Option.getD_some]at b m;obtain rfl:c=len:=by omega
 subst b;have o:¬c<l:=by omega
 simp[execOp,a.eval i,a.eval j,Instr.sliceAt,Instr.slice,Instr.sliceBounds,Instr.sliceBound,asIntOf,underlying,f,h,o]}
end slices
end Go.Gw
