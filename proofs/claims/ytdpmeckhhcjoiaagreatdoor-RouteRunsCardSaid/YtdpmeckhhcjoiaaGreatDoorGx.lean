import Derived.Test.YtdpmeckhhcjoiaaGreatDoorGn
namespace Go.Gw
open Go Go.RowKit Go.Pu
variable{Dw:Prop}
set_option linter.unusedSimpArgs false
set_option linter.unusedVariables false
theorem zpN{β:Type}(X F a T b R nv:List β)(i:nv.length=a.length):
  ((X++(F++(a++(T++(b++R))))).take (X.length+F.length)++nv++(X++(F++(a++(T++(b++R))))).drop (X.length+F.length+a.length)).take (X.length+(F.length+a.length+T.length)+b.length) =
   (X++(F++(a++(T++b)))).take X.length++((((X++(F++(a++(T++b)))).drop X.length).take (F.length+a.length+T.length)).take F.length++nv++(((X++(F++(a++(T++b)))).drop X.length).take (F.length+a.length+T.length)).drop (F.length+a.length))++(X++(F++(a++(T++b)))).drop (X.length+(F.length+a.length+T.length)):=by{
 have c:(X++(F++(a++(T++(b++R))))).take (X.length+F.length)=X++F:=by
  rw[← List.length_append, ← List.append_assoc];exact List.take_left
 have d:(X++(F++(a++(T++(b++R))))).drop (X.length+F.length+a.length)=T++(b++R):=by
  rw[show X++(F++(a++(T++(b++R))))=(X++(F++a))++(T++(b++R)) by simp,show X.length+F.length+a.length=(X++(F++a)).length by simp[Nat.add_assoc]];exact List.drop_left
 have e:(X++(F++(a++(T++b)))).drop X.length=F++(a++(T++b)):=List.drop_left
 have f:(F++(a++(T++b))).take (F.length+a.length+T.length)=F++(a++T):=by
  rw[show F++(a++(T++b))=(F++(a++T))++b by simp,show F.length+a.length+T.length=(F++(a++T)).length by simp[Nat.add_assoc]];exact List.take_left
 have g:(F++(a++T)).drop (F.length+a.length)=T:=by
  rw[← List.append_assoc, ← List.length_append];exact List.drop_left
 have h:(X++(F++(a++(T++b)))).drop (X.length+(F.length+a.length+T.length))=b:=by
  rw[show X++(F++(a++(T++b)))=(X++(F++(a++T)))++b by simp,show X.length+(F.length+a.length+T.length)=(X++(F++(a++T))).length by simp[Nat.add_assoc]];exact List.drop_left
 rw[c,d,e,f,g,h,List.take_left,List.take_left];rw[show X++F++nv++(T++(b++R))=(X++F++nv++T++b)++R by simp,show X.length+(F.length+a.length+T.length)+b.length=(X++F++nv++T++b).length by simp[i];omega,List.take_left];simp}
theorem zsI{β:Type}(e nv:List β)(i c foff sz d:Nat)(s:i+c≤d)(t:d≤e.length)(u:foff+sz≤c)(v:nv.length=sz):
  (e.take (i+foff)++nv++e.drop (i+foff+sz)).take d =
   (e.take d).take i++((((e.take d).drop i).take c).take foff++nv++(((e.take d).drop i).take c).drop (foff+sz))++(e.take d).drop (i+c):=by{
 obtain⟨a,l,rfl,k⟩:∃a l,e=a++l∧a.length=d:=⟨e.take d,e.drop d,by simp,by simp;omega⟩;obtain⟨b,a,rfl,n⟩:∃b Y,a=b++Y∧b.length=i:=⟨a.take i,a.drop i,by simp,by simp;omega⟩;obtain⟨f,a,rfl,o⟩:∃b Y,a=b++Y∧b.length=foff:=⟨a.take foff,a.drop foff,by simp,by simp at k ⊢;omega⟩;obtain⟨g,a,rfl,p⟩:∃b Y,a=b++Y∧b.length=sz:=⟨a.take sz,a.drop sz,by simp,by simp at k ⊢;omega⟩;obtain⟨h,j,rfl,w⟩:∃b Y,a=b++Y∧b.length=c-foff-sz:=⟨a.take (c-foff-sz),a.drop (c-foff-sz),by simp,by simp at k ⊢;omega⟩;have q:c=f.length+g.length+h.length:=by omega
 have m:d=b.length+(f.length+g.length+h.length)+j.length:=by simp at k;omega
 have r:(b++(f++(g++(h++j)))++l).take d=b++(f++(g++(h++j))):=by
  rw[m,show b.length+(f.length+g.length+h.length)+j.length=(b++(f++(g++(h++j)))).length by simp;omega];exact List.take_left
 rw[r, ← n, ← o, ← p,q,m];have:=zpN b f g h j l nv (by omega);simpa only[List.append_assoc]using this}
section steps
variable{P:Program}{n:Fr}{ops:Array Oper}{Q:Exit→Act→World→Prop}{E:Env}{w:World}{rest:List Oper}{v u:Value}{d:Nat}
variable{ty t t2 e:TypeId}{pos:String}{af:Array Edge}{x y z:Operand}{A:Nat→Prop}{α:Type}[GoT α]{ρd:Option Nat}{g:Option (Nat×Bool)}
variable{k k2:IntKind}{p q:Int}{s s2:ByteArray}
omit [GoT α] in
theorem zrz{a:BinOp}{k2:IntKind}{u:Value}(f:binOp a t (.int k p) (.int k2 q)=pure u)(c:ev E x=some (.int k p))(d:ev E y=some (.int k2 q)):
  Y P n E ⟨ρd,.binOp a t x y t2,ty,pos,af,g⟩ w u w:=fun h b=>by
 have e:(eqGuard a t x y (.int k p) (.int k2 q))=pure ():=by unfold eqGuard;cases a <;> rfl
 simp only[execOp,b.eval c,b.eval d,e,f];rfl
omit [GoT α] in
theorem zsS{r:Int}(a:shr k p q=some r)(b:ev E x=some (.int k p))(c:ev E y=some (.int k2 q)):Y P n E ⟨ρd,.binOp .shr t x y t2,ty,pos,af,g⟩ w (.int k r) w:=by
 unfold shr at a
 split at a
 ·cases a
 ·rename_i h0
  refine zrz ?_ b c
  obtain rfl:=Option.some.inj a
  simp only[binOp,Op.shift,if_neg h0]
omit [GoT α] in
theorem zly{a:BinOp}{u:Value}(b:Op.stringOp a s s2=pure u)(d:a=.add∨a=.eql∨a=.neq∨a=.lss∨a=.leq∨a=.gtr∨a=.geq)(e:ev E x=some (.string s))(f:ev E y=some (.string s2)):
  Y P n E ⟨ρd,.binOp a t x y t2,ty,pos,af,g⟩ w u w:=fun j c=>by
 have h:(eqGuard a t x y (.string s) (.string s2))=pure ():=by unfold eqGuard;cases a <;> rfl
 have i:binOp a t (.string s) (.string s2)=Op.stringOp a s s2:=by
  rcases d with b|b|b|b|b|b|b <;> subst b <;> rfl
 simp only[execOp,c.eval e,c.eval f,h,i,b];rfl
omit [GoT α] in
theorem zec(a:ev E x=some (.string s))(b:ev E y=some (.string s2)):Y P n E ⟨ρd,.binOp .eql t x y t2,ty,pos,af,g⟩ w (.bool (qi s s2)) w:=zly rfl (by simp) a b
omit [GoT α] in
theorem zsK(a:ev E x=some (.string s))(b:ev E y=some (.string s2)):Y P n E ⟨ρd,.binOp .neq t x y t2,ty,pos,af,g⟩ w (.bool (!(qi s s2))) w:=zly rfl (by simp) a b
omit [GoT α] in
theorem zqx(a:ev E x=some (.string s))(b:ev E y=some (.string s2)):Y P n E ⟨ρd,.binOp .leq t x y t2,ty,pos,af,g⟩ w (.bool (zfA s s2||qi s s2)) w:=zly rfl (by simp) a b
omit [GoT α] in
theorem zrq{r:UInt8}(a:idxS s q=some r)(c:P.underlying t=some .string)(d:ev E x=some (.string s))(e:ev E y=some (.int k q)):Y P n E ⟨ρd,.index t x y,ty,pos,af,g⟩ w (.int .u8 (r.toNat:Int)) w:=fun f b=>by
 unfold idxS at a
 simp only[execOp,b.eval d,b.eval e,Instr.index,asIntOf]
 simp[underlying,c,a]
omit [GoT α] in
theorem zoQ{a:TypeId}{b:TypeDesc}(c:P.underlying a=some b)(d:P.underlying t=some (.int k2))(e:ev E x=some (.int k p)):Y P n E ⟨ρd,.convert a t x,ty,pos,af,g⟩ w (.int k2 (k2.wrap p)) w:=fun h f=>by
 simp only[execOp,f.eval e,convert]
 simp[underlying,c,d,Conv.intToInt]
omit [GoT α] in
theorem zbD{c:Array Field}{d:Value}{a:Array (Nat×Operand)}{b:Array (Nat×Nat)}{vs:List Value}{cells:Array Value}(i:P.underlying t=some (.struct c))(j:∀w,(zeroValue t).run P w=.ok d w)(k:∀w,(Array.mapM (fun (f:Field)=>do pure (f.offset, ← Go.sizeOf f.type)) c).run P w=.ok b w)(l:evs E (a.toList.map (·.2))=some vs)(m:Instr.fill (b[·]?) d.cells ((a.toList.map (·.1)).zip vs)=some cells):Y P n E ⟨ρd,.build t a,ty,pos,af,g⟩ w (.agg cells) w:=fun u o=>by
 have q:(a.map fun (h,x)=>(h,u.eval x)).toList=(a.toList.map (·.1)).zip vs:=by
  rw[← o.evals l]
  simp only[Array.toList_map]
  generalize a.toList=s
  induction s with
  | nil=>rfl
  | cons p r ih=>obtain⟨h,x⟩:=p;simp[ih]
 simp only[execOp,Instr.build]
 rw[q]
 have e:=k w
 simp at e
 simp[underlying,i,j,e,m]
theorem Sl.split{l:List α}(e:Sl A w v l):(v=.slice none 0 0∧l=[])∨∃a f g,v=.slice (some a) f g:=by
 rcases e with ⟨a,b,rfl,c,_,d⟩|⟨i,off,b,h,rfl,_⟩
 ·cases a with
  | none=>exact .inl ⟨by rw[d rfl],c⟩
  | some a=>exact .inr ⟨_,_,_,rfl⟩
 ·exact .inr ⟨_,_,_,rfl⟩
omit [GoT α] in
theorem zdk(c:ev E x=some (.slice none 0 0))(d:ev E y=some (.slice none 0 0))(f:P.underlying t=some (.slice e)):Y P n E ⟨ρd,.binOp .eql t x y t2,ty,pos,af,g⟩ w (.bool true) w:=fun i a=>by
 obtain⟨b,h⟩:∃b,Op.maxDepth=b+1:=⟨_,rfl⟩
 simp only[execOp,a.eval c,a.eval d]
 simp[eqGuard,binOp,Op.equal,h,Op.equalIn,underlying,f]
omit [GoT α] in
theorem zdm{c:Addr}{d f:Nat}(h:ev E x=some (.slice (some c) d f))(i:ev E y=some (.slice none 0 0))(j:P.underlying t=some (.slice e)):Y P n E ⟨ρd,.binOp .eql t x y t2,ty,pos,af,g⟩ w (.bool false) w:=fun l a=>by
 obtain⟨b,k⟩:∃b,Op.maxDepth=b+1:=⟨_,rfl⟩
 simp only[execOp,a.eval h,a.eval i]
 simp[eqGuard,binOp,Op.equal,k,Op.equalIn,underlying,j]
theorem zop{B:Nat}(j:P.underlying t=some (.slice e))(l:∀w,(Go.sizeOf e).run P w=.ok (GoT.cells α) w)(hB:B≤w.heap.size)(m:∀c,w.heap.size≤c→A c)(o:Nat.blt d n.sz=true)(a:∀v f h,Ow e B h f v ([]:List α)→Mv Dw B A w h f none→(∀g,v.ownBlock=some g→w.heap.size≤g)→V P n ops Q rest ((d,v)::E) f):
  V P n ops Q (⟨some d,.buildSlice t 0 #[],ty,pos,af,none⟩::rest) E w:=by{
 have b:=Kp.alloc (Dw:=Dw) w (.cells #[] e)
 have i:Mv Dw B A w (fun c=>A c∧c≠w.heap.size) (w.alloc (.cells #[] e)) none :=
  ⟨b.os,b.tape,b.output,b.size,b.dr,fun k a _=>b.block k a,(fun k a=>by cases a),fun k a=>a.1,fun k b p=>⟨p,by omega⟩,fun c q=>⟨m c (Nat.le_trans b.size q),by
   have:w.heap.size<(w.alloc (.cells #[] e)).heap.size:=(Array.getElem?_eq_some_iff.1 (heap_alloc_new w (.cells #[] e))).1
   omega⟩⟩
 refine V_y (w':=w.alloc (.cells #[] e)) (v := .slice (some ⟨w.heap.size,0,none⟩) 0 0) (fun u s=>?_) rfl rfl o (a _ _ _ (.inr ⟨w.heap.size,0,#[], [],rfl,hB,fun a=>a.2 rfl,heap_alloc_new w _,Nat.le_refl _,Nat.zero_le _,by simp,rfl,by simp⟩) i ?_);simp only[execOp,Instr.buildSlice];simp[underlying,j,l,Instr.fill,newRow];rw[show Array.range 0=#[] from by with_unfolding_all rfl];simp;intro g r;simp[Value.ownBlock]at r;omega}
theorem Ow.freeze{B:Nat}{l:List α}(a:Ow e B A w v l)(j:∀b,w.heap.size≤b→A b):
  ∃c:Nat→Prop,Tr Dw B A w c w∧Sl c w v l∧∀(β:Type) (_:GoT β) (d:TypeId) (u:Value) (m:List β),Ow d B A w u m→Dj u v.ownBlock→Ow d B c w u m:=by{refine⟨fun k=>A k∨v.ownBlock=some k,⟨⟨Nat.le_refl _,fun _ _ a=>⟨.inl a,rfl⟩⟩,Bel.refl _ _,?_,fun b n=>.inl (j b n)⟩,a.sl (fun _ a=>.inl a) (fun _ a=>.inr a),?_⟩;rintro k (f | f);exact .inl f;obtain⟨H,o,_⟩:=a.row;exact .inr (o.lt k f).1;intro β _ d u m p q;rcases p with a|⟨g,h,i,r,rfl,s,t,x,y,z,D,E,F⟩;exact .inl a;exact .inr ⟨g,h,i,r,rfl,s,fun a=>a.elim t (fun a=>q g rfl a.symm),x,y,z,D,E.keep (.sub fun k _ G=>.inl G),F⟩}
theorem zpl{B:Nat}{l:List α}{len:Nat}{f:Array (Nat×Operand)}{i:Value}{vs:List Value}{cells:Array Value}(D:P.underlying t=some (.slice e))(F:∀w,(Go.sizeOf e).run P w=.ok (GoT.cells α) w)(G:∀w,(zeroValue e).run P w=.ok i w)(H:evs E (f.toList.map (·.2))=some vs)(I:Instr.fill (fun h=>some (h*GoT.cells α,GoT.cells α)) ((Array.range (len*GoT.cells α)).map (i.cells[· % i.cells.size]!)) ((f.toList.map (·.1)).zip vs)=some cells)(s:len*GoT.cells α≠0)(o:len*GoT.cells α≤2^24)(hB:B≤w.heap.size)(J:∀c,w.heap.size≤c→A c)(j:repL A w cells.toList l)(hlen:l.length=len)(K:Nat.blt d n.sz=true)(a:∀v m u,Ow e B u m v l→Mv Dw B A w u m none→(∀g,v.ownBlock=some g→w.heap.size≤g)→V P n ops Q rest ((d,v)::E) m):
  V P n ops Q (⟨some d,.buildSlice t len f,ty,pos,af,none⟩::rest) E w:=by{
 have b:=Kp.alloc (Dw:=Dw) w (.cells cells e)
 have q:Mv Dw B A w (fun c=>A c∧c≠w.heap.size) (w.alloc (.cells cells e)) none :=
  ⟨b.os,b.tape,b.output,b.size,b.dr,fun k a _=>b.block k a,(fun k a=>by cases a),fun k a=>a.1,fun k b L=>⟨L,by omega⟩,fun c M=>⟨J c (Nat.le_trans b.size M),by
   have:w.heap.size<(w.alloc (.cells cells e)).heap.size:=(Array.getElem?_eq_some_iff.1 (heap_alloc_new w (.cells cells e))).1
   omega⟩⟩
 have y:l.length≤maxLen:=by
  have N:1≤GoT.cells α:=Nat.one_le_iff_ne_zero.2 fun a=>s (by rw[a,Nat.mul_zero])
  have O:len≤len*GoT.cells α:=Nat.le_mul_of_pos_right _ N
  rw[hlen]
  exact Nat.le_trans (Nat.le_trans O o) (by decide)
 subst hlen;refine V_y (w':=w.alloc (.cells cells e)) (v := .slice (some ⟨w.heap.size,0,none⟩) l.length l.length) (fun U z=>?_) rfl rfl K (a _ _ _ (.inr ⟨w.heap.size,l.length,cells,cells.toList,rfl,hB,fun a=>a.2 rfl,heap_alloc_new w _,Nat.le_refl _,y,by have:=j.len;simpa using this,j.keep q.ex,List.take_of_length_le (by have:=j.len;simp at this ⊢;omega)⟩) q ?_)
 have R:(f.map fun (h,x)=>(h,U.eval x)).toList=(f.toList.map (·.1)).zip vs:=by
  rw[← z.evals H]
  simp only[Array.toList_map]
  generalize f.toList=S
  induction S with
  | nil=>rfl
  | cons p r ih=>obtain⟨h,x⟩:=p;simp[ih]
 simp only[execOp,Instr.buildSlice];rw[R];simp[underlying,D,F,G,s,Nat.not_lt.2 o,I,newRow];intro g T;simp[Value.ownBlock]at T;omega}
theorem zqE{B:Nat}{l r:List α}{i:Int}{b off sz foff:Nat}{el I:α}{nv:Value}(b2:Ow e B A w v l)(T:Loc v b off i (GoT.cells α))(U:idx l i=some el)(f:setI l i I=some r)(W:∀o,GoT.rep A w o el→GoT.rep A w (o.take foff++nv.cells.toList++o.drop (foff+sz)) I)(b3:∀w,(Go.sizeOf t).run P w=.ok sz w)(z:nv.cells.size=sz)(X:∀u∈nv.cells.toList,u.oneCell'=true)(Z:foff+sz≤GoT.cells α)(b4:∀b,w.heap.size≤b→A b)(b5:ev E x=some (.pointer (some ⟨b,off+foff,none⟩)))(b6:ev E y=some nv)(d:∀p,Ow e B A p v r→Mv Dw B A w A p v.ownBlock→V P n ops Q rest E p):V P n ops Q (⟨none,.store t x y,ty,pos,af,none⟩::rest) E w:=by{
 obtain⟨⟨len,q,rfl⟩,rfl⟩:=T;unfold setI at f;split at f;rotate_left;cases f;rename_i hi;obtain rfl:=Option.some.inj f;rcases b2 with ⟨h,_⟩|⟨g,c0,a,c1,h,J,K,L,M,b7,N,O,R⟩;cases h;simp only[Value.slice.injEq,Option.some.injEq,Addr.mk.injEq,and_true]at h;obtain⟨rfl,rfl,rfl⟩:=h;have c:nv.cells.toList.length=sz:=by simpa using z
 have a4:i.toNat*GoT.cells α+GoT.cells α≤l.length*GoT.cells α:=by
  rw[← Nat.succ_mul];exact Nat.mul_le_mul_right _ (by omega)
 have a0:l.length*GoT.cells α≤a.size:=by rw[N];exact Nat.mul_le_mul_right _ M
 have m:=run_storeCells_at P b (i.toNat*GoT.cells α+foff) e nv.cells.toList 0 a w L (by rw[Nat.add_zero,c];omega) X;rw[Nat.add_zero]at m;generalize s:(a.toList.take (i.toNat*GoT.cells α+foff)++nv.cells.toList++a.toList.drop (i.toNat*GoT.cells α+foff+nv.cells.toList.length)).toArray=row at m
 have a5:row.size=q*GoT.cells α:=by
  rw[← s, ← N]
  simp only[List.size_toArray,List.length_append,List.length_take,List.length_drop,Array.length_toList,c]
  omega
 have D:Mv Dw B A w A (w.setRow b row) (some b) :=
  ⟨rfl,rfl,rfl,by simp,fun _=>Nat.le_refl _,fun k S a6=>setRow_other w b k _ (fun e=>a6 (by rw[e])),fun k S=>by cases S;exact⟨J,K⟩,fun _ d=>d,fun _ _ d=>d,fun b8 a7=>b4 b8 (by simpa using a7)⟩
 obtain⟨_,_,a8⟩:=zed U;obtain⟨c2,j,c3,a9,b0,F⟩:=O.at a8;have G:=GoT.len F;have a1:=W j F;have a2:=O.set hi.2 a1;refine V_s (w':=w.setRow b row) (fun c4 H=>?_) rfl rfl (d _ (.inr ⟨b,q,row,_,by rw[List.length_set],J,K,setRow_heap w b a _ e _ L,by rw[List.length_set];exact M,b7,a5,a2.keep D.ex,?_⟩) D);simp only[execOp,H.eval b5,H.eval b6,Instr.storeAt,Instr.sureAddr];simp[storeVar,b3,z,m]
 have b1:(j.take foff++nv.cells.toList++j.drop (foff+sz)).length=GoT.cells α:=by
  simp only[List.length_append,List.length_take,List.length_drop,c,G];omega
 have b9:(a.toList.take (l.length*GoT.cells α)).length=l.length*GoT.cells α:=by simp;omega
 have a3:j=((a.toList.take (l.length*GoT.cells α)).drop (i.toNat*GoT.cells α)).take (GoT.cells α):=by
  rw[R,a9, ← b0,List.drop_left, ← G,List.take_left]
 rw[← s,List.length_set,b1, ← R,a3,c];exact zsI a.toList nv.cells.toList (i.toNat*GoT.cells α) (GoT.cells α) foff sz (l.length*GoT.cells α) a4 (by simpa using a0) Z c}
theorem Ow.lower{B b:Nat}{l:List α}(a:Ow e b A w v l)(hB:B≤b):Ow e B A w v l:=by{rcases a with a|⟨g,c,d,f,rfl,h,i⟩;exact .inl a;exact .inr ⟨g,c,d,f,rfl,Nat.le_trans hB h,i⟩}
theorem Ow.base{B:Nat}{l:List α}(c:Ow e B A w v l):∀g,v.ownBlock=some g→B≤g:=by{intro g a;obtain⟨d,b,_⟩:=c.row;exact (b.lt g a).1}
theorem Ow.over{B:Nat}{b:Nat→Prop}{c:World}{l:List α}(a:Ow e B A w v l)(t:Tr Dw w.heap.size A w b c):Ow e B b c v l:=by
 rcases a with a|⟨g,f,h,j,rfl,k,m,d,n,o,p,q,r⟩
 ·exact .inl a
 ·have i:=(Array.getElem?_eq_some_iff.1 d).1
  exact .inr ⟨g,f,h,j,rfl,k,fun a=>(t.sub g a).elim m (fun s=>by omega),by rw[t.below.block g i];exact d,n,o,p,q.keep t.ex,r⟩
omit [GoT α] in
theorem Tr.lower{B a:Nat}{b:Nat→Prop}{c:World}(t:Tr Dw a A w b c)(hB:B≤a):Tr Dw B A w b c :=
 ⟨t.ex,Bel.mono t.below hB,fun k d=>(t.sub k d).imp id (Nat.le_trans hB),t.new⟩
end steps
end Go.Gw
