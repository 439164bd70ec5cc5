import Derived.Test.YtligccioljhapaaGreatDoorGn
namespace Go.Gw
open Go Go.RowKit Go.Pu
variable{Dw:Prop}
set_option linter.unusedSimpArgs false
set_option linter.unusedVariables false
theorem zkW{β:Type}(X F a T b R nv:List β)(i:nv.length=a.length):
  ((X++(F++(a++(T++(b++R))))).take (X.length+F.length)++nv++(X++(F++(a++(T++(b++R))))).drop (X.length+F.length+a.length)).take (X.length+(F.length+a.length+T.length)+b.length) =
   (X++(F++(a++(T++b)))).take X.length++((((X++(F++(a++(T++b)))).drop X.length).take (F.length+a.length+T.length)).take F.length++nv++(((X++(F++(a++(T++b)))).drop X.length).take (F.length+a.length+T.length)).drop (F.length+a.length))++(X++(F++(a++(T++b)))).drop (X.length+(F.length+a.length+T.length)):=by{
 have c:(X++(F++(a++(T++(b++R))))).take (X.length+F.length)=X++F:=by
  rw[← List.length_append, ← List.append_assoc];exact List.take_left
 have d:(X++(F++(a++(T++(b++R))))).drop (X.length+F.length+a.length)=T++(b++R):=by
  rw[show X++(F++(a++(T++(b++R))))=(X++(F++a))++(T++(b++R)) by simp,show X.length+F.length+a.length=(X++(F++a)).length by simp[Nat.add_assoc]];exact List.drop_left
 have e:(X++(F++(a++(T++b)))).drop X.length=F++(a++(T++b)):=List.drop_left
 have f:(F++(a++(T++b))).take (F.length+a.length+T.length)=F++(a++T):=by
  rw[show F++(a++(T++b))=(F++(a++T))++b by simp,show F.length+a.length+T.length=(F++(a++T)).length by simp[Nat.add_assoc]];exact List.take_left
 have g:(F++(a++T)).drop (F.length+a.length)=T:=by
  rw[← List.append_assoc, ← List.length_append];exact List.drop_left
 have h:(X++(F++(a++(T++b)))).drop (X.length+(F.length+a.length+T.length))=b:=by
  rw[show X++(F++(a++(T++b)))=(X++(F++(a++T)))++b by simp,show X.length+(F.length+a.length+T.length)=(X++(F++(a++T))).length by simp[Nat.add_assoc]];exact List.drop_left
 rw[c,d,e,f,g,h,List.take_left,List.take_left];rw[show X++F++nv++(T++(b++R))=(X++F++nv++T++b)++R by simp,show X.length+(F.length+a.length+T.length)+b.length=(X++F++nv++T++b).length by simp[i];omega,List.take_left];simp}
theorem zmV{β:Type}(e nv:List β)(i c foff sz d:Nat)(t:i+c≤d)(u:d≤e.length)(v:foff+sz≤c)(w:nv.length=sz):
  (e.take (i+foff)++nv++e.drop (i+foff+sz)).take d =
   (e.take d).take i++((((e.take d).drop i).take c).take foff++nv++(((e.take d).drop i).take c).drop (foff+sz))++(e.take d).drop (i+c):=by{
 obtain⟨a,m,rfl,l⟩:∃a m,e=a++m∧a.length=d:=⟨e.take d,e.drop d,by simp,by simp;omega⟩;obtain⟨b,a,rfl,o⟩:∃b Y,a=b++Y∧b.length=i:=⟨a.take i,a.drop i,by simp,by simp;omega⟩;obtain⟨f,a,rfl,p⟩:∃b Y,a=b++Y∧b.length=foff:=⟨a.take foff,a.drop foff,by simp,by simp at l ⊢;omega⟩;obtain⟨g,a,rfl,q⟩:∃b Y,a=b++Y∧b.length=sz:=⟨a.take sz,a.drop sz,by simp,by simp at l ⊢;omega⟩;obtain⟨h,j,rfl,x⟩:∃b Y,a=b++Y∧b.length=c-foff-sz:=⟨a.take (c-foff-sz),a.drop (c-foff-sz),by simp,by simp at l ⊢;omega⟩;have r:c=f.length+g.length+h.length:=by omega
 have n:d=b.length+(f.length+g.length+h.length)+j.length:=by simp at l;omega
 have s:(b++(f++(g++(h++j)))++m).take d=b++(f++(g++(h++j))):=by
  rw[n,show b.length+(f.length+g.length+h.length)+j.length=(b++(f++(g++(h++j)))).length by simp;omega];exact List.take_left
 rw[s, ← o, ← p, ← q,r,n];have:=zkW b f g h j m nv (by omega);simpa only[List.append_assoc]using this}
section steps
variable{P:Program}{n:Fr}{ops:Array Oper}{Q:Exit→Act→World→Prop}{E:Env}{w:World}{rest:List Oper}{v u:Value}{d:Nat}
variable{ty t t2 e:TypeId}{pos:String}{af:Array Edge}{x y z:Operand}{A:Nat→Prop}{α:Type}[GoT α]{ρd:Option Nat}{g:Option (Nat×Bool)}
variable{k k2:IntKind}{p q:Int}{s s2:ByteArray}
omit [GoT α] in
theorem zlT{a:BinOp}{k2:IntKind}{u:Value}(f:binOp a t (.int k p) (.int k2 q)=pure u)(c:ev E x=some (.int k p))(d:ev E y=some (.int k2 q)):
  Y P n E ⟨ρd,.binOp a t x y t2,ty,pos,af,g⟩ w u w:=fun h b=>by
 have e:(eqGuard a t x y (.int k p) (.int k2 q))=pure ():=by unfold eqGuard;cases a <;> rfl
 simp only[execOp,b.eval c,b.eval d,e,f];rfl
omit [GoT α] in
theorem zns{r:Int}(a:shr k p q=some r)(b:ev E x=some (.int k p))(c:ev E y=some (.int k2 q)):Y P n E ⟨ρd,.binOp .shr t x y t2,ty,pos,af,g⟩ w (.int k r) w:=by
 unfold shr at a
 split at a
 ·cases a
 ·rename_i h0
  refine zlT ?_ b c
  obtain rfl:=Option.some.inj a
  simp only[binOp,Op.shift,if_neg h0]
omit [GoT α] in
theorem zkn{a:BinOp}{u:Value}(b:Op.stringOp a s s2=pure u)(d:a=.add∨a=.eql∨a=.neq∨a=.lss∨a=.leq∨a=.gtr∨a=.geq)(e:ev E x=some (.string s))(f:ev E y=some (.string s2)):
  Y P n E ⟨ρd,.binOp a t x y t2,ty,pos,af,g⟩ w u w:=fun j c=>by
 have h:(eqGuard a t x y (.string s) (.string s2))=pure ():=by unfold eqGuard;cases a <;> rfl
 have i:binOp a t (.string s) (.string s2)=Op.stringOp a s s2:=by
  rcases d with b|b|b|b|b|b|b <;> subst b <;> rfl
 simp only[execOp,c.eval e,c.eval f,h,i,b];rfl
omit [GoT α] in
theorem zlK(a:ev E x=some (.string s))(b:ev E y=some (.string s2)):Y P n E ⟨ρd,.binOp .eql t x y t2,ty,pos,af,g⟩ w (.bool (Zw s s2)) w:=zkn rfl (by simp) a b
omit [GoT α] in
theorem zjj(a:ev E x=some (.string s))(b:ev E y=some (.string s2)):Y P n E ⟨ρd,.binOp .neq t x y t2,ty,pos,af,g⟩ w (.bool (!(Zw s s2))) w:=zkn rfl (by simp) a b
omit [GoT α] in
theorem zjB{r:UInt8}(a:idxS s q=some r)(c:P.underlying t=some .string)(d:ev E x=some (.string s))(e:ev E y=some (.int k q)):Y P n E ⟨ρd,.index t x y,ty,pos,af,g⟩ w (.int .u8 (r.toNat:Int)) w:=fun f b=>by
 unfold idxS at a
 simp only[execOp,b.eval d,b.eval e,Instr.index,asIntOf]
 simp[underlying,c,a]
omit [GoT α] in
theorem zkw{ts:TypeId}{a:TypeDesc}(b:P.underlying ts=some a)(c:P.underlying t=some (.int k2))(d:ev E x=some (.int k p)):Y P n E ⟨ρd,.convert ts t x,ty,pos,af,g⟩ w (.int k2 (k2.wrap p)) w:=fun f e=>by
 simp only[execOp,e.eval d,convert]
 simp[underlying,b,c,Conv.intToInt]
omit [GoT α] in
theorem jF{fs:Array Field}{c:Value}{a:Array (Nat×Operand)}{b:Array (Nat×Nat)}{vs:List Value}{cells:Array Value}(h:P.underlying t=some (.struct fs))(i:∀w,(zeroValue t).run P w=.ok c w)(hp:∀w,(Array.mapM (fun (f:Field)=>do pure (f.offset, ← Go.sizeOf f.type)) fs).run P w=.ok b w)(j:evs E (a.toList.map (·.2))=some vs)(l:Instr.fill (b[·]?) c.cells ((a.toList.map (·.1)).zip vs)=some cells):Y P n E ⟨ρd,.build t a,ty,pos,af,g⟩ w (.agg cells) w:=fun s m=>by
 have o:(a.map fun (e,x)=>(e,s.eval x)).toList=(a.toList.map (·.1)).zip vs:=by
  rw[← m.evals j]
  simp only[Array.toList_map]
  generalize a.toList=q
  induction q with
  | nil=>rfl
  | cons p r ih=>obtain⟨e,x⟩:=p;simp[ih]
 simp only[execOp,Instr.build]
 rw[o]
 have d:=hp w
 simp at d
 simp[underlying,h,i,d,l]
theorem Sl.split{l:List α}(e:Sl A w v l):(v=.slice none 0 0∧l=[])∨∃a f g,v=.slice (some a) f g:=by{
 rcases e with ⟨a,b,rfl,c,_,d⟩|⟨i,off,b,h,rfl,_⟩;cases a with
 | none=>exact .inl ⟨by rw[d rfl],c⟩
 | some a=>exact .inr ⟨_,_,_,rfl⟩
 exact .inr ⟨_,_,_,rfl⟩}
theorem Ow.freeze{B:Nat}{l:List α}(a:Ow e B A w v l)(i:∀b,w.heap.size≤b→A b):
  ∃c:Nat→Prop,Tr Dw B A w c w∧Sl c w v l∧∀(β:Type) (_:GoT β) (e2:TypeId) (u:Value) (m:List β),Ow e2 B A w u m→Dj u v.ownBlock→Ow e2 B c w u m:=by{refine⟨fun k=>A k∨v.ownBlock=some k,⟨⟨Nat.le_refl _,fun _ _ a=>⟨.inl a,rfl⟩⟩,Bel.refl _ _,?_,fun b j=>.inl (i b j)⟩,a.sl (fun _ a=>.inl a) (fun _ a=>.inr a),?_⟩;rintro k (d | d);exact .inl d;obtain⟨G,n,_⟩:=a.row;exact .inr (n.lt k d).1;intro β _ e2 u m o p;rcases o with a|⟨g,f,h,q,rfl,r,s,t,x,y,z,D,E⟩;exact .inl a;exact .inr ⟨g,f,h,q,rfl,r,fun a=>a.elim s (fun a=>p g rfl a.symm),t,x,y,z,D.keep (.sub fun k _ F=>.inl F),E⟩}
theorem zkR{B:Nat}{l:List α}{len:Nat}{f:Array (Nat×Operand)}{i:Value}{vs:List Value}{cells:Array Value}(F:P.underlying t=some (.slice e))(G:∀w,(Go.sizeOf e).run P w=.ok (GoT.cells α) w)(H:∀w,(zeroValue e).run P w=.ok i w)(I:evs E (f.toList.map (·.2))=some vs)(J:Instr.fill (fun h=>some (h*GoT.cells α,GoT.cells α)) ((Array.range (len*GoT.cells α)).map (i.cells[· % i.cells.size]!)) ((f.toList.map (·.1)).zip vs)=some cells)(u:len*GoT.cells α≠0)(q:len*GoT.cells α≤2^24)(hB:B≤w.heap.size)(K:∀c,w.heap.size≤c→A c)(j:repL A w cells.toList l)(o:l.length=len)(L:Nat.blt d n.sz=true)(a:∀v m y,Ow e B y m v l→Mv Dw B A w y m none→(∀g,v.ownBlock=some g→w.heap.size≤g)→V P n ops Q rest ((d,v)::E) m):
  V P n ops Q (⟨some d,.buildSlice t len f,ty,pos,af,none⟩::rest) E w:=by{
 have b:=Kp.alloc (Dw:=Dw) w (.cells cells e)
 have s:Mv Dw B A w (fun c=>A c∧c≠w.heap.size) (w.alloc (.cells cells e)) none :=
  ⟨b.os,b.tape,b.output,b.size,b.dr,fun k a _=>b.block k a,(fun k a=>by cases a),fun k a=>a.1,fun k b M=>⟨M,by omega⟩,fun c N=>⟨K c (Nat.le_trans b.size N),by
   have:w.heap.size<(w.alloc (.cells cells e)).heap.size:=(Array.getElem?_eq_some_iff.1 (heap_alloc_new w (.cells cells e))).1
   omega⟩⟩
 have z:l.length≤maxLen:=by
  have O:1≤GoT.cells α:=Nat.one_le_iff_ne_zero.2 fun a=>u (by rw[a,Nat.mul_zero])
  have R:len≤len*GoT.cells α:=Nat.le_mul_of_pos_right _ O
  rw[o]
  exact Nat.le_trans (Nat.le_trans R q) (by decide)
 subst o;refine V_y (w':=w.alloc (.cells cells e)) (v := .slice (some ⟨w.heap.size,0,none⟩) l.length l.length) (fun U D=>?_) rfl rfl L (a _ _ _ (.inr ⟨w.heap.size,l.length,cells,cells.toList,rfl,hB,fun a=>a.2 rfl,heap_alloc_new w _,Nat.le_refl _,z,by have:=j.len;simpa using this,j.keep s.ex,List.take_of_length_le (by have:=j.len;simp at this ⊢;omega)⟩) s ?_)
 have hp:(f.map fun (h,x)=>(h,U.eval x)).toList=(f.toList.map (·.1)).zip vs:=by
  rw[← D.evals I]
  simp only[Array.toList_map]
  generalize f.toList=S
  induction S with
  | nil=>rfl
  | cons p r ih=>obtain⟨h,x⟩:=p;simp[ih]
 simp only[execOp,Instr.buildSlice];rw[hp];simp[underlying,F,G,H,u,Nat.not_lt.2 q,J,newRow];intro g T;simp[Value.ownBlock]at T;omega}
theorem zlj{B:Nat}{l r:List α}{i:Int}{b off sz foff:Nat}{el x':α}{nv:Value}(b1:Ow e B A w v l)(S:Loc v b off i (GoT.cells α))(T:idx l i=some el)(f:setI l i x'=some r)(U:∀o,GoT.rep A w o el→GoT.rep A w (o.take foff++nv.cells.toList++o.drop (foff+sz)) x')(b2:∀w,(Go.sizeOf t).run P w=.ok sz w)(z:nv.cells.size=sz)(W:∀u∈nv.cells.toList,u.oneCell'=true)(X:foff+sz≤GoT.cells α)(b3:∀b,w.heap.size≤b→A b)(b4:ev E x=some (.pointer (some ⟨b,off+foff,none⟩)))(b5:ev E y=some nv)(d:∀p,Ow e B A p v r→Mv Dw B A w A p v.ownBlock→V P n ops Q rest E p):V P n ops Q (⟨none,.store t x y,ty,pos,af,none⟩::rest) E w:=by{
 obtain⟨⟨len,q,rfl⟩,rfl⟩:=S;unfold setI at f;split at f;rotate_left;cases f;rename_i hi;obtain rfl:=Option.some.inj f;rcases b1 with ⟨h,_⟩|⟨g,b9,a,c0,h,I,J,K,L,b6,M,N,O⟩;cases h;simp only[Value.slice.injEq,Option.some.injEq,Addr.mk.injEq,and_true]at h;obtain⟨rfl,rfl,rfl⟩:=h;have c:nv.cells.toList.length=sz:=by simpa using z
 have a3:i.toNat*GoT.cells α+GoT.cells α≤l.length*GoT.cells α:=by
  rw[← Nat.succ_mul];exact Nat.mul_le_mul_right _ (by omega)
 have Z:l.length*GoT.cells α≤a.size:=by rw[M];exact Nat.mul_le_mul_right _ L
 have m:=run_storeCells_at P b (i.toNat*GoT.cells α+foff) e nv.cells.toList 0 a w K (by rw[Nat.add_zero,c];omega) W;rw[Nat.add_zero]at m;generalize s:(a.toList.take (i.toNat*GoT.cells α+foff)++nv.cells.toList++a.toList.drop (i.toNat*GoT.cells α+foff+nv.cells.toList.length)).toArray=row at m
 have a4:row.size=q*GoT.cells α:=by
  rw[← s, ← M]
  simp only[List.size_toArray,List.length_append,List.length_take,List.length_drop,Array.length_toList,c]
  omega
 have D:Mv Dw B A w A (w.setRow b row) (some b) :=
  ⟨rfl,rfl,rfl,by simp,fun _=>Nat.le_refl _,fun k R a5=>setRow_other w b k _ (fun e=>a5 (by rw[e])),fun k R=>by cases R;exact⟨I,J⟩,fun _ d=>d,fun _ _ d=>d,fun b7 a6=>b3 b7 (by simpa using a6)⟩
 obtain⟨_,_,a7⟩:=QE T;obtain⟨c1,j,c2,a8,a9,F⟩:=N.at a7;have G:=GoT.len F;have a0:=U j F;have a1:=N.set hi.2 a0;refine V_s (w':=w.setRow b row) (fun c3 H=>?_) rfl rfl (d _ (.inr ⟨b,q,row,_,by rw[List.length_set],I,J,setRow_heap w b a _ e _ K,by rw[List.length_set];exact L,b6,a4,a1.keep D.ex,?_⟩) D);simp only[execOp,H.eval b4,H.eval b5,Instr.storeAt,Instr.sureAddr];simp[storeVar,b2,z,m]
 have b0:(j.take foff++nv.cells.toList++j.drop (foff+sz)).length=GoT.cells α:=by
  simp only[List.length_append,List.length_take,List.length_drop,c,G];omega
 have b8:(a.toList.take (l.length*GoT.cells α)).length=l.length*GoT.cells α:=by simp;omega
 have a2:j=((a.toList.take (l.length*GoT.cells α)).drop (i.toNat*GoT.cells α)).take (GoT.cells α):=by
  rw[O,a8, ← a9,List.drop_left, ← G,List.take_left]
 rw[← s,List.length_set,b0, ← O,a2,c];exact zmV a.toList nv.cells.toList (i.toNat*GoT.cells α) (GoT.cells α) foff sz (l.length*GoT.cells α) a3 (by simpa using Z) X c}
theorem Ow.lower{B b:Nat}{l:List α}(a:Ow e b A w v l)(hB:B≤b):Ow e B A w v l:=by{rcases a with a|⟨g,c,d,f,rfl,h,i⟩;exact .inl a;exact .inr ⟨g,c,d,f,rfl,Nat.le_trans hB h,i⟩}
theorem Ow.base{B:Nat}{l:List α}(c:Ow e B A w v l):∀g,v.ownBlock=some g→B≤g:=by{intro g a;obtain⟨d,b,_⟩:=c.row;exact (b.lt g a).1}
theorem Ow.over{B:Nat}{b:Nat→Prop}{c:World}{l:List α}(a:Ow e B A w v l)(t:Tr Dw w.heap.size A w b c):Ow e B b c v l:=by
 rcases a with a|⟨g,f,h,j,rfl,m,n,d,o,p,q,r,s⟩
 ·exact .inl a
 ·have i:=(Array.getElem?_eq_some_iff.1 d).1
  exact .inr ⟨g,f,h,j,rfl,m,fun a=>(t.sub g a).elim n (fun u=>by omega),by rw[t.below.block g i];exact d,o,p,q,r.keep t.ex,s⟩
omit [GoT α] in
theorem Tr.lower{B a:Nat}{b:Nat→Prop}{c:World}(t:Tr Dw a A w b c)(hB:B≤a):Tr Dw B A w b c :=
 ⟨t.ex,Bel.mono t.below hB,fun k d=>(t.sub k d).imp id (Nat.le_trans hB),t.new⟩
end steps
end Go.Gw
