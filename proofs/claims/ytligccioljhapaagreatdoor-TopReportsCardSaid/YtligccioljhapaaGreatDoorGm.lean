import Derived.Test.YtligccioljhapaaGreatDoorGw
namespace Go.Gw
open Go Go.RowKit Go.Pu
set_option linter.unusedSimpArgs false
set_option linter.unusedVariables false
structure Ex(A:Nat→Prop)(w:World)(A':Nat→Prop)(w':World):Prop where
 size:w.heap.size≤w'.heap.size
 block:∀k,k<w.heap.size→A k→A' k∧w'.heap[k]?=w.heap[k]?
variable{Dw:Prop}
theorem Kp.refl(w:World):Kp Dw w w:=Bel.refl _ _
theorem Kp.trans{a b c:World}(d:Kp Dw a b)(k:Kp Dw b c):Kp Dw a c:=Bel.trans d (Bel.mono k d.size)
theorem Kp.alloc(w:World)(o:Obj):Kp Dw w (w.alloc o):=⟨rfl,rfl,rfl,by simp,fun _=>Nat.le_refl _,fun k a=>Below.heap_alloc _ _ _ a⟩
theorem Kp.drew(w:World):Kp Dw w w.drew:=⟨rfl,rfl,rfl,Nat.le_refl _,fun _=>Nat.le_succ _,fun _ _=>rfl⟩
theorem Ex.kp{A:Nat→Prop}{w w':World}(a:Kp Dw w w'):Ex A w A w':=⟨a.size,fun k b c=>⟨c,a.block k b⟩⟩
theorem Ex.sub{A A':Nat→Prop}{w:World}(c:∀k,k<w.heap.size→A k→A' k):Ex A w A' w:=⟨Nat.le_refl _,fun k a b=>⟨c k a b,rfl⟩⟩
theorem Ex.any{A:Nat→Prop}{w:World}:Ex A w (fun _=>True) w := .sub fun _ _ _=>trivial
theorem zdZ(b off j:Nat):(⟨b,off,none⟩:Addr).add j=⟨b,off+j,none⟩:=by unfold Addr.add;split <;> simp_all
def At(w:World)(b off:Nat)(cs:List Value):Prop:=∀j u,cs[j]?=some u→w.cell? ⟨b,off+j,none⟩=some u
theorem At.left{w:World}{b off:Nat}{a c2:List Value}(d:At w b off (a++c2)):At w b off a:=fun e f c=>d e f (by
 rw[List.getElem?_append_left]
 ·exact c
 ·exact (List.getElem?_eq_some_iff.1 c).1)
theorem At.right{w:World}{b off:Nat}{a c2:List Value}(d:At w b off (a++c2)):At w b (off+a.length) c2:=fun e f c=>by
 rw[Nat.add_assoc]
 exact d (a.length+e) f (by rw[List.getElem?_append_right (by omega)];simpa using c)
theorem At.same{w w':World}{b off:Nat}{cs:List Value}(e:At w b off cs)(c:w'.heap[b]?=w.heap[b]?):At w' b off cs:=fun a f d=>by
 rw[World.cell?_of_block (a:=⟨b,off+a,none⟩) c]
 exact e a f d
class GoT(α:Type)where
 cells:Nat
 wf:α→Prop
 rep:(Nat→Prop)→World→List Value→α→Prop
 len:∀{A w cs x},rep A w cs x→cs.length=cells
 one:∀{A w cs x},rep A w cs x→∀u∈cs,u.oneCell'=true
 keep:∀{A w A' w' cs x},rep A w cs x→Ex A w A' w'→rep A' w' cs x
def repL{α:Type}[GoT α](A:Nat→Prop)(w:World):List Value→List α→Prop
 | cs, []=>cs=[]
 | cs,x::r=>∃c1 c2,cs=c1++c2∧GoT.rep A w c1 x∧repL A w c2 r
section
variable{α:Type}[GoT α]{A A':Nat→Prop}{w w':World}
theorem repL.len{cs:List Value}{l:List α}(a:repL A w cs l):cs.length=l.length*GoT.cells α:=by{
 induction l generalizing cs with
 | nil=>rw[repL]at a;subst a;simp
 | cons x r ih =>
  rw[repL]at a
  obtain⟨d,e,rfl,b,c⟩:=a
  rw[List.length_append,GoT.len b,ih c,List.length_cons,Nat.succ_mul,Nat.add_comm]}
theorem repL.one{cs:List Value}{l:List α}(b:repL A w cs l):∀c∈cs,c.oneCell'=true:=by{
 induction l generalizing cs with
 | nil=>rw[repL]at b;subst b;simp
 | cons x r ih =>
  rw[repL]at b
  obtain⟨f,g,rfl,d,e⟩:=b
  intro c a
  rcases List.mem_append.1 a with a|a
  exact GoT.one d c a
  exact ih e c a}
theorem repL.keep{cs:List Value}{l:List α}(a:repL A w cs l)(b:Ex A w A' w'):repL A' w' cs l:=by{
 induction l generalizing cs with
 | nil=>exact a
 | cons x r ih =>
  rw[repL]at a⊢
  obtain⟨c,d,rfl,e,f⟩:=a
  exact⟨c,d,rfl,GoT.keep e b,ih f⟩}
theorem repL.at{cs:List Value}{l:List α}{i:Nat}{x:α}(d:repL A w cs l)(hi:l[i]?=some x):∃a b e,cs=a++(b++e)∧a.length=i*GoT.cells α∧GoT.rep A w b x:=by{
 induction l generalizing cs i with
 | nil=>simp at hi
 | cons y r ih =>
  rw[repL]at d
  obtain⟨a,b,rfl,c,f⟩:=d
  cases i with
  | zero =>
   simp at hi
   subst hi
   exact⟨[],a,b,by simp,by simp,c⟩
  | succ i =>
   simp at hi
   obtain⟨g,h,j,rfl,m,n⟩:=ih f hi
   exact⟨a++g,h,j,by simp,by rw[List.length_append,GoT.len c,m,Nat.succ_mul,Nat.add_comm],n⟩}
theorem repL.append{b c2:List Value}{l m:List α}(a:repL A w b l)(c:repL A w c2 m):repL A w (b++c2) (l++m):=by{
 induction l generalizing b with
 | nil=>rw[repL]at a;subst a;exact c
 | cons x r ih =>
  rw[repL]at a
  obtain⟨d,e,rfl,g1,f⟩:=a
  rw[List.cons_append,repL]
  exact⟨d,e++c2,by simp,g1,ih f⟩}
theorem repL.single{cs:List Value}{x:α}(a:GoT.rep A w cs x):repL A w cs [x]:=⟨cs, [],by simp,a,rfl⟩
end
def Sl{α:Type}[GoT α](A:Nat→Prop)(w:World)(v:Value)(l:List α):Prop :=
 (∃a cap,v=.slice a 0 cap∧l=[]∧cap≤maxLen∧(a=none→cap=0))∨
 ∃b off cap cs,v=.slice (some ⟨b,off,none⟩) l.length cap∧A b∧b<w.heap.size∧l.length≤cap∧cap≤maxLen∧repL A w cs l∧At w b off cs
def El{α:Type}[GoT α](A:Nat→Prop)(w:World)(b off:Nat)(x:α):Prop :=
 A b∧b<w.heap.size∧∃cs,GoT.rep A w cs x∧At w b off cs
section
variable{α:Type}[GoT α]{A A':Nat→Prop}{w w':World}
theorem Sl.keep{v:Value}{l:List α}(d:Sl A w v l)(a:Ex A w A' w'):Sl A' w' v l:=by{rcases d with d|⟨b,off,f,g,h,e,c,i,j,m,n⟩;exact .inl d;exact .inr ⟨b,off,f,g,h,(a.block b c e).1,Nat.lt_of_lt_of_le c a.size,i,j,m.keep a,n.same (a.block b c e).2⟩}
theorem Sl.kp{v:Value}{l:List α}(b:Sl A w v l)(a:Kp Dw w w'):Sl A w' v l:=b.keep (.kp a)
theorem Sl.any{v:Value}{l:List α}(a:Sl A w v l):Sl (fun _=>True) w v l:=a.keep .any
theorem Sl.nil:Sl A w (.slice none 0 0) ([]:List α) := .inl ⟨none,0,rfl,rfl,by simp,fun _=>rfl⟩
theorem Sl.form{v:Value}{l:List α}(e:Sl A w v l):∃a c,v=.slice a l.length c∧l.length≤maxLen:=by{rcases e with ⟨a,f,rfl,rfl,_,_⟩|⟨b,off,c,g,d,h,i,j,m,n,o⟩;exact⟨a,f,rfl,by simp⟩;exact⟨_,_,d,by omega⟩}
theorem Sl.le{v:Value}{l:List α}(a:Sl A w v l):l.length≤maxLen:=let ⟨_,_,_,a⟩:=a.form;a
theorem El.keep{b off:Nat}{x:α}(h:El A w b off x)(a:Ex A w A' w'):El A' w' b off x:=by{obtain⟨d,c,e,f,g⟩:=h;exact⟨(a.block b c d).1,Nat.lt_of_lt_of_le c a.size,e,GoT.keep f a,g.same (a.block b c d).2⟩}
theorem El.kp{b off:Nat}{x:α}(c:El A w b off x)(a:Kp Dw w w'):El A w' b off x:=c.keep (.kp a)
end
instance:GoT Int where
 cells:=1
 wf x := -9223372036854775808≤x∧x≤9223372036854775807
 rep _ _ cs x:=cs=[.int .i64 x]
 len h:=by subst h;rfl
 one h:=by subst h;simp[Value.oneCell']
 keep h _:=h
instance:GoT Bool where
 cells:=1
 wf _:=True
 rep _ _ cs x:=cs=[.bool x]
 len h:=by subst h;rfl
 one h:=by subst h;simp[Value.oneCell']
 keep h _:=h
instance:GoT ByteArray where
 cells:=1
 wf s:=s.size≤maxLen
 rep _ _ cs x:=cs=[.string x]
 len h:=by subst h;rfl
 one h:=by subst h;simp[Value.oneCell']
 keep h _:=h
instance:GoT UInt8 where
 cells:=1
 wf _:=True
 rep _ _ cs x:=cs=[.int .u8 x.toNat]
 len h:=by subst h;rfl
 one h:=by subst h;simp[Value.oneCell']
 keep h _:=h
instance:GoT UInt32 where
 cells:=1
 wf _:=True
 rep _ _ cs x:=cs=[.int .u32 x.toNat]
 len h:=by subst h;rfl
 one h:=by subst h;simp[Value.oneCell']
 keep h _:=h
instance{α β:Type}[GoT α][GoT β]:GoT (α×β) where
 cells:=GoT.cells α+GoT.cells β
 wf p:=GoT.wf p.1∧GoT.wf p.2
 rep A w cs x:=∃c1 c2,cs=c1++c2∧GoT.rep A w c1 x.1∧GoT.rep A w c2 x.2
 len h:=by obtain⟨c1,c2,rfl,h1,h2⟩:=h;rw[List.length_append,GoT.len h1,GoT.len h2]
 one h:=by
  obtain⟨c1,c2,rfl,h1,h2⟩:=h
  intro u hu
  rcases List.mem_append.1 hu with hu|hu
  ·exact GoT.one h1 u hu
  ·exact GoT.one h2 u hu
 keep h he:=by obtain⟨c1,c2,rfl,h1,h2⟩:=h;exact⟨c1,c2,rfl,GoT.keep h1 he,GoT.keep h2 he⟩
instance{α:Type}[GoT α]:GoT (List α) where
 cells:=1
 wf l:=l.length≤maxLen∧∀x∈l,GoT.wf x
 rep A w cs l:=∃v,cs=[v]∧Sl A w v l
 len h:=by obtain⟨v,rfl,_⟩:=h;rfl
 one h:=by
  obtain⟨v,rfl,h⟩:=h
  obtain⟨a,cap,rfl,_⟩:=h.form
  simp[Value.oneCell']
 keep h he:=by obtain⟨v,rfl,h⟩:=h;exact⟨v,rfl,h.keep he⟩
@[reducible] def GoT.of {α β:Type} [GoT β] (f:α→β):GoT α where
 cells:=GoT.cells β
 wf x:=GoT.wf (f x)
 rep A w cs x:=GoT.rep A w cs (f x)
 len h:=GoT.len h
 one h:=GoT.one h
 keep h he:=GoT.keep h he
section
variable{α β:Type}[GoT α][GoT β]{A:Nat→Prop}{w:World}{b off:Nat}
theorem El.fst{x:α}{y:β}(g:El A w b off (x,y)):El A w b off x:=by{obtain⟨a,c,h,⟨d,i,rfl,e,j⟩,f⟩:=g;exact⟨a,c,d,e,f.left⟩}
theorem El.snd{x:α}{y:β}(h:El A w b off (x,y)):El A w b (off+GoT.cells α) y:=by{obtain⟨a,c,i,⟨j,d,rfl,e,f⟩,g⟩:=h;refine⟨a,c,d,f,?_⟩;rw[← GoT.len e];exact g.right}
theorem El.cell{v:Value}{x:α}(f:El A w b off x)(c:∀a,GoT.rep A w a x→a=[v]):w.cell? ⟨b,off,none⟩=some v:=by{obtain⟨g,h,a,d,e⟩:=f;have:=c a d;subst this;exact e 0 v rfl}
theorem El.int{x:Int}(a:El A w b off x):w.cell? ⟨b,off,none⟩=some (.int .i64 x):=a.cell fun _ a=>a
theorem El.bool{x:Bool}(a:El A w b off x):w.cell? ⟨b,off,none⟩=some (.bool x):=a.cell fun _ a=>a
theorem El.str{x:ByteArray}(a:El A w b off x):w.cell? ⟨b,off,none⟩=some (.string x):=a.cell fun _ a=>a
theorem El.u8{x:UInt8}(a:El A w b off x):w.cell? ⟨b,off,none⟩=some (.int .u8 x.toNat):=a.cell fun _ a=>a
theorem El.u32{x:UInt32}(a:El A w b off x):w.cell? ⟨b,off,none⟩=some (.int .u32 x.toNat):=a.cell fun _ a=>a
theorem El.list{x:List α}(d:El A w b off x):∃v,w.cell? ⟨b,off,none⟩=some v∧Sl A w v x:=by{obtain⟨e,f,g,⟨v,rfl,a⟩,c⟩:=d;exact⟨v,c 0 v rfl,a⟩}
end
theorem QE{α:Type}{l:List α}{i:Int}{x:α}(a:idx l i=some x):0≤i∧i<l.length∧l[i.toNat]?=some x:=by{unfold idx at a;split at a;rename_i h0;have:=(List.getElem?_eq_some_iff.1 a).1;exact⟨h0,by omega,a⟩;cases a}
section steps
variable{P:Program}{n:Fr}{E:Env}{w:World}{v:Value}{ρd:Option Nat}{ty t e:TypeId}{pos:String}{af:Array Edge}{g:Option (Nat×Bool)}{x y z:Operand}{A:Nat→Prop}
variable{α:Type}[GoT α]
theorem zgt{l:List α}{k:IntKind}{i:Int}{el:α}(j:Sl A w v l)(d:idx l i=some el)(q:P.underlying t=some (.slice e))(m:∀w,(Go.sizeOf e).run P w=.ok (GoT.cells α) w)(r:ev E x=some v)(s:ev E y=some (.int k i)):∃b off,El A w b off el∧∀w',Y P n E ⟨ρd,.indexAddr t x y,ty,pos,af,g⟩ w' (.pointer (some ⟨b,off,none⟩)) w':=by{
 obtain⟨u,z,a⟩:=QE d;rcases j with ⟨_,_,rfl,rfl,_,_⟩|⟨b,off,H,K,rfl,B,o,I,J,f,p⟩;simp at a;obtain⟨L,D,M,rfl,F,G⟩:=f.at a;refine⟨b,off+i.toNat*GoT.cells α,⟨B,o,D,G,?_⟩,fun w' N c=>?_⟩;rw[← F];exact p.right.left
 have h:(⟨b,off,none⟩:Addr).add (i.toNat*GoT.cells α)=⟨b,off+i.toNat*GoT.cells α,none⟩:=by
  unfold Addr.add
  split <;> simp_all
 simp only[execOp,c.eval r,c.eval s,Instr.indexAt,asIntOf];simp[underlying,q,m,u,z,h]}
theorem zfO{b off:Nat}(a:w.cell? ⟨b,off,none⟩=some v)(c:∀w,(isAgg t).run P w=.ok false w)(d:ev E x=some (.pointer (some ⟨b,off,none⟩))):Y P n E ⟨ρd,.load t x,ty,pos,af,g⟩ w v w:=fun f e=>by
 simp only[execOp,e.eval d,Instr.loadAt,Instr.sureAddr]
 simp[loadVar,c,a]
theorem zds(cs:List Value):∀(b off i:Nat) (d:Array Value),(∀a e,cs[a]?=some e→w.cell? ⟨b,off+(i+a),none⟩=some e)→
  (loadCellsFrom ⟨b,off,none⟩ i cs.length d).run P w=.ok (d++cs.toArray) w:=by{
 induction cs with
 | nil=>intro b off i d _;simp[loadCellsFrom]
 | cons c r ih =>
  intro b off i d g
  have f:=g 0 c rfl
  have h:(⟨b,off,none⟩:Addr).add i=⟨b,off+i,none⟩:=by unfold Addr.add;split <;> simp_all
  simp only[List.length_cons,loadCellsFrom,h]
  have:=ih b off (i+1) (d.push c) (fun a e j=>by rw[show i+1+a=i+(a+1) by omega];exact g (a+1) e (by simpa using j))
  simp only[Nat.add_zero]at f
  simp[f,this]}
theorem zy{b off:Nat}{cs:List Value}(a:At w b off cs)(c:∀w,(isAgg t).run P w=.ok true w)(d:∀w,(Go.sizeOf t).run P w=.ok cs.length w)(e:ev E x=some (.pointer (some ⟨b,off,none⟩)):=by exact rfl):
  Y P n E ⟨ρd,.load t x,ty,pos,af,g⟩ w (.agg cs.toArray) w:=fun l f=>by
 have:=zds (P:=P) (w:=w) cs b off 0 #[] (fun i j h=>by rw[Nat.zero_add];exact a i j h)
 simp only[execOp,f.eval e,Instr.loadAt,Instr.sureAddr]
 simp[loadVar,c,d,loadCells,this]
theorem zex{b off i:Nat}{fs:Array Field}{f:Field}{sz:Nat}(c:P.underlying t=some (.struct fs))(d:fs[i]?=some f)(e:∀w,(Go.sizeOf f.type).run P w=.ok sz w)(h:sz≠0)(j:ev E x=some (.pointer (some ⟨b,off,none⟩))):Y P n E ⟨ρd,.fieldAddr t x i,ty,pos,af,g⟩ w (.pointer (some ⟨b,off+f.offset,none⟩)) w:=fun m l=>by
 have a:(⟨b,off,none⟩:Addr).add f.offset=⟨b,off+f.offset,none⟩:=by unfold Addr.add;split <;> simp_all
 simp only[execOp,l.eval j,Instr.fieldAt]
 simp[underlying,c,d,Instr.sureAddr,fieldPlace,e,h,a]
theorem zhq{a:Option Addr}{len cap:Nat}{b:Array TypeId}(c:b[0]?=some t)(d:P.underlying t=some (.slice e))(f:ev E x=some (.slice a len cap)):
  Y P n E ⟨ρd,.call ⟨.builtin .len,#[x],b⟩,ty,pos,af,g⟩ w (.int .i64 len) w:=fun a h=>by
 simp[execOp,resolve,invoke,builtin,h.eval f,Builtin.len_,c,underlying,d,goInt]
theorem zM{l:List α}{a:Array TypeId}(b:Sl A w v l)(c:a[0]?=some t)(d:P.underlying t=some (.slice e))(f:ev E x=some v:=by exact rfl){w':World}:
  Y P n E ⟨ρd,.call ⟨.builtin .len,#[x],a⟩,ty,pos,af,g⟩ w' (.int .i64 (l.length:Int)) w':=by{obtain⟨h,i,rfl,_⟩:=b.form;exact zhq c d f}
theorem zeY{s:ByteArray}{a:Array TypeId}(b:a[0]?=some t)(c:P.underlying t=some .string)(d:ev E x=some (.string s)):
  Y P n E ⟨ρd,.call ⟨.builtin .len,#[x],a⟩,ty,pos,af,g⟩ w (.int .i64 s.size) w:=fun f e=>by
 simp[execOp,resolve,invoke,builtin,e.eval d,Builtin.len_,b,underlying,c,goInt]
end steps
end Go.Gw
namespace Go.Gw
open Go Go.RowKit Go.Pu
variable{Dw:Prop}
section more
variable{P:Program}{n:Fr}{ops:Array Oper}{Q:Exit→Act→World→Prop}{E:Env}{w:World}{rest:List Oper}{v:Value}{d:Nat}{W:World→Prop}{QA:Act→Prop}
variable{ty t e:TypeId}{pos:String}{af:Array Edge}{x y z:Operand}{A:Nat→Prop}{α:Type}[GoT α]{ρd:Option Nat}{g:Option (Nat×Bool)}
theorem Ze{l:List α}{k:IntKind}{i:Int}{el:α}(c:Sl A w v l)(a:idx l i=some el)(g:P.underlying t=some (.slice e))(f:∀w,(Go.sizeOf e).run P w=.ok (GoT.cells α) w)(h:ev E x=some v)(j:ev E y=some (.int k i))(m:Nat.blt d n.sz=true)(q:∀b off,El A w b off el→V P n ops Q rest ((d,.pointer (some ⟨b,off,none⟩))::E) w):
  V P n ops Q (⟨some d,.indexAddr t x y,ty,pos,af,none⟩::rest) E w:=by{obtain⟨b,off,o,p⟩:=zgt (ρd:=some d) (ty:=ty) (pos:=pos) (af:=af) (g:=none) c a g f h j;exact V_y (p w) rfl rfl m (q b off o)}
theorem QK{l:List α}{k:IntKind}{i:Int}{el:α}(c:Sl A w v l)(a:idx l i=some el)(g:P.underlying t=some (.slice e))(f:∀w,(Go.sizeOf e).run P w=.ok (GoT.cells α) w)(h:ev E x=some v)(j:ev E y=some (.int k i))(m:Nat.blt d n.sz=true)(q:∀b off,El A w b off el→VQ P n ops W QA rest ((d,.pointer (some ⟨b,off,none⟩))::E)):
  VQ P n ops W QA (⟨some d,.indexAddr t x y,ty,pos,af,none⟩::rest) E:=by{obtain⟨b,off,o,p⟩:=zgt (ρd:=some d) (ty:=ty) (pos:=pos) (af:=af) (g:=none) c a g f h j;exact VQ_y (fun w' _=>p w') rfl rfl m (q b off o)}
theorem zeQ{fn:Fn}{fst cap:Array Operand}{vs a:List Value}(d:evs E fst.toList=some vs)(e:evs E cap.toList=some a):
  Y P n E ⟨ρd,.makeFunc fn fst cap,ty,pos,af,g⟩ w (.func fn vs.toArray a.toArray) w:=fun c b=>by
 have f:fst.map c.eval=vs.toArray:=by apply Array.toList_inj.1;rw[Array.toList_map,b.evals d]
 have h:cap.map c.eval=a.toArray:=by apply Array.toList_inj.1;rw[Array.toList_map,b.evals e]
 simp only[execOp,f,h];rfl
structure NewB(w w1:World)(b:Nat)(cs:Array Value)(t:TypeId):Prop where
 kp:∀{Dw:Prop},Kp Dw w w1
 blk:b=w.heap.size
 heap:w1.heap[b]?=some (.cells cs t (0,0))
 size:w1.heap.size=b+1
theorem zeZ(w:World)(cs:Array Value)(t:TypeId):NewB w (w.alloc (.cells cs t)) w.heap.size cs t :=
 ⟨Kp.alloc _ _,rfl,heap_alloc_new w _,by simp⟩
theorem NewB.at{w a:World}{b:Nat}{cs:Array Value}{t:TypeId}(d:NewB w a b cs t):At a b 0 cs.toList:=fun e f c=>by
 simp only[World.cell?,d.heap,Nat.zero_add]
 simpa using c
theorem NewB.el{w c:World}{b:Nat}{cs:Array Value}{t:TypeId}{x:α}(a:NewB w c b cs t)(d:∀b,w.heap.size≤b→A b)(e:GoT.rep A w cs.toList x):El A c b 0 x :=
 ⟨d b (by rw[a.blk];exact Nat.le_refl _),by rw[a.size];omega,cs.toList,GoT.keep e (.kp (a.kp (Dw:=True))),a.at⟩
theorem NewB.sl{w c:World}{b:Nat}{cs:Array Value}{t:TypeId}{l:List α}(a:NewB w c b cs t)(d:∀b,w.heap.size≤b→A b)(e:repL A w cs.toList l)(f:l.length≤maxLen):Sl A c (.slice (some ⟨b,0,none⟩) l.length l.length) l :=
 .inr ⟨b,0,l.length,cs.toList,rfl,d b (by rw[a.blk];exact Nat.le_refl _),by rw[a.size];omega,Nat.le_refl _,f,e.keep (.kp (a.kp (Dw:=True))),a.at⟩
theorem ZU(c:ev E y=some v)(e:Nat.blt d n.sz=true)(g:∀b a,NewB w a b v.cells t→V P n ops Q rest ((d,.pointer (some ⟨b,0,none⟩))::E) a):
  V P n ops Q (⟨some d,.box t y,ty,pos,af,none⟩::rest) E w :=
 V_y (w':=w.alloc (.cells v.cells t)) (v := .pointer (some ⟨w.heap.size,0,none⟩)) (fun h f=>by simp only[execOp,f.eval c,Instr.box];simp[newVar,newRow]) rfl rfl e (g _ _ (zeZ w _ _))
theorem jG{a:Value}(e:∀w,(zeroValue t).run P w=.ok a w)(f:Nat.blt d n.sz=true)(g:∀b c,NewB w c b a.cells t→V P n ops Q rest ((d,.pointer (some ⟨b,0,none⟩))::E) c):
  V P n ops Q (⟨some d,.alloc t,ty,pos,af,none⟩::rest) E w :=
 V_y (w':=w.alloc (.cells a.cells t)) (v := .pointer (some ⟨w.heap.size,0,none⟩)) (fun i h=>by simp only[execOp,Instr.alloc];simp[e,newVar,newRow]) rfl rfl f (g _ _ (zeZ w _ _))
theorem At.kp{w w':World}{b off:Nat}{cs:List Value}(d:At w b off cs)(a:Kp Dw w w')(c:b<w.heap.size):At w' b off cs:=d.same (a.block b c)
theorem jz{l:List α}{len:Nat}{a:Array (Nat×Operand)}{f:Value}{vs:List Value}{cells:Array Value}(u:P.underlying t=some (.slice e))(y:∀w,(Go.sizeOf e).run P w=.ok (GoT.cells α) w)(z:∀w,(zeroValue e).run P w=.ok f w)(B:evs E (a.toList.map (·.2))=some vs)(D:Instr.fill (fun c=>some (c*GoT.cells α,GoT.cells α)) ((Array.range (len*GoT.cells α)).map (f.cells[· % f.cells.size]!)) ((a.toList.map (·.1)).zip vs)=some cells)(o:len*GoT.cells α≠0)(j:len*GoT.cells α≤2^24)(F:∀b,w.heap.size≤b→A b)(G:repL A w cells.toList l)(i:l.length=len)(H:Nat.blt d n.sz=true)(h:∀v g,Kp Dw w g→Sl A g v l→V P n ops Q rest ((d,v)::E) g):V P n ops Q (⟨some d,.buildSlice t len a,ty,pos,af,none⟩::rest) E w:=by{
 have m:=zeZ w cells e
 have q:l.length≤maxLen:=by
  have I:1≤GoT.cells α:=Nat.one_le_iff_ne_zero.2 fun h=>o (by rw[h,Nat.mul_zero])
  have J:len≤len*GoT.cells α:=Nat.le_mul_of_pos_right _ I
  rw[i]
  exact Nat.le_trans (Nat.le_trans J j) (by decide)
 refine V_y (w':=w.alloc (.cells cells e)) (v := .slice (some ⟨w.heap.size,0,none⟩) len len) (fun L s=>?_) rfl rfl H (h _ _ m.kp (by have:=m.sl F G q;rw[i]at this;exact this))
 have hp:(a.map fun (c,x)=>(c,L.eval x)).toList=(a.toList.map (·.1)).zip vs:=by
  rw[← s.evals B]
  simp only[Array.toList_map]
  generalize a.toList=K
  induction K with
  | nil=>rfl
  | cons p r ih=>obtain⟨c,x⟩:=p;simp[ih]
 simp only[execOp,Instr.buildSlice];rw[hp];simp[underlying,u,y,z,o,Nat.not_lt.2 j,D,newRow]}
theorem V_s{o:Oper}{w':World}(e:∀a,Has n a E→(execOp a.eval o).run P w=.ok .skip w')(f:o.guard=none)(g:o.dst=none)(b:V P n ops Q rest E w'):V P n ops Q (o::rest) E w:=by{intro a c;refine wpListIn_plain f fun i h=>⟨fun _ _=>trivial,?_⟩;rw[je (e a c) (fun d b=>by cases b),Oper.uponIn_skip,g];exact h _ _ (b _ c)}
theorem zkC{w0:World}{b:Nat}{cs:Array Value}{sz:Nat}(a:NewB w0 w b cs e)(l:∀w,(Go.sizeOf t).run P w=.ok sz w)(m:ev E y=some v)(o:ev E x=some (.pointer (some ⟨b,0,none⟩)))(p:v.cells.size=sz)(z:cs.size=sz)(i:∀s∈v.cells.toList,s.oneCell'=true)(u:∀g,NewB w0 g b v.cells e→V P n ops Q rest E g):V P n ops Q (⟨none,.store t x y,ty,pos,af,none⟩::rest) E w:=by{
 have f:=run_storeCells_at P b 0 e v.cells.toList 0 cs w a.heap (by simp;omega) i
 have j:(cs.toList.take (0+0)++v.cells.toList++cs.toList.drop (0+0+v.cells.toList.length)).toArray=v.cells:=by
  simp only[Nat.add_zero,Nat.zero_add,List.take_zero,List.nil_append]
  rw[List.drop_eq_nil_of_le (by simp;omega)]
  simp
 have q:∀c,Has n c E→(execOp c.eval (⟨none,.store t x y,ty,pos,af,none⟩:Oper)).run P w=.ok .skip (w.setRow b v.cells):=fun c h=>by
  simp only[execOp,h.eval o,h.eval m,Instr.storeAt,Instr.sureAddr]
  rw[j]at f
  simp[storeVar,l,p,f]
 refine V_s q rfl rfl (u _ ⟨⟨?_,?_,?_,?_,fun d=>?_,?_⟩,a.blk,?_,?_⟩);simp[World.setRow];exact (a.kp (Dw:=True)).os;simp[World.setRow];exact (a.kp (Dw:=True)).tape;simp[World.setRow];exact (a.kp (Dw:=True)).output;have:=(a.kp (Dw:=True)).size;simp[World.setRow];exact this;exact (a.kp (Dw:=True)).dr trivial;intro k r;rw[setRow_other w b k _ (by rw[a.blk];omega)];exact (a.kp (Dw:=True)).block k r;exact setRow_heap w b cs _ e _ a.heap;have:=a.size;simp[World.setRow];exact this}
end more
end Go.Gw
