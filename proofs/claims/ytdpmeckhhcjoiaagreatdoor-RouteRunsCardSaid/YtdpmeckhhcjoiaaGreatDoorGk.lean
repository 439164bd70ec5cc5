import Derived.Test.YtdpmeckhhcjoiaaGreatDoorGd
import Derived.MapKept
import Derived.Laws.StructEq
namespace Go.Gw
open Go Go.RowKit Go.Pu
variable{Dw:Prop}
set_option linter.unusedSimpArgs false
set_option linter.unusedVariables false
def obMF{σ:Type}[GoT σ](F:Int→Option (List σ))(mb:Nat):Ob where
 P f A w:=f=[mb]∧∃es clk,w.heap[mb]?=some (.map es clk)∧∀e∈es.toList,∃d l,e.key=.int .i64 d∧F d=some l∧Sl A w e.val l
 keep h he hb:=by
  obtain⟨rfl,es,clk,h1,h2⟩:=h
  refine⟨rfl,es,clk,by rw[hb mb (by simp)];exact h1,fun e hm=>?_⟩
  obtain⟨d,l,q1,q2,q3⟩:=h2 e hm
  exact⟨d,l,q1,q2,q3.keep he⟩
 lt h b' hb':=by
  obtain⟨rfl,es,clk,h1,_⟩:=h
  simp at hb'
  subst hb'
  exact (Array.getElem?_eq_some_iff.1 h1).1
def ckL{γ σ:Type}[GoT γ][GoT σ](tb:TypeId)(F:γ→Int→Option (List σ))(b:Nat)(c:γ)(i:Nat×List Value):List Ob :=
 [obF (fun A w=>GoT.rep A w i.2 c) (fun h he=>GoT.keep h he),obC b (i.2++[.map (some i.1)]) tb,obMF (F c) i.1]
def obCk{γ σ:Type}[GoT γ][GoT σ](tb:TypeId)(F:γ→Int→Option (List σ))(b:Nat)(c:γ):Ob:=obE (ckL tb F b c)
section
variable{B:Nat}{A A1:Nat→Prop}{w w1:World}{L:List Ob}{i:Nat}{γ σ:Type}[GoT γ][GoT σ]{tb:TypeId}{F:γ→Int→Option (List σ)}{b:Nat}{c:γ}
theorem Hp.ck(l:Hp B A w L)(hi:L[i]?=some (obCk tb F b c)):El (fun _=>True) w b 0 c:=by{have g:=l.front hi;obtain⟨⟨mb,a⟩,d⟩:=Hp.open g;obtain⟨_,⟨_,h⟩,_⟩:=d.at (i:=0) rfl;obtain⟨j,k,_⟩:=d.cells (i:=1) rfl;have f:GoT.rep (fun _=>True) w a c:=GoT.keep h ⟨Nat.le_refl _,fun _ _ _=>⟨trivial,rfl⟩⟩;refine⟨trivial,(Array.getElem?_eq_some_iff.1 k).1,a,f,fun m u e=>j m u ?_⟩;rw[List.getElem?_append_left (List.getElem?_eq_some_iff.1 e).1];exact e}
end
section steps
variable{P:Program}{n:Fr}{ops:Array Oper}{Q:Exit→Act→World→Prop}{E:Env}{w:World}{rest:List Oper}{v u:Value}{d:Nat}
variable{ty t kt et:TypeId}{pos:String}{af:Array Edge}{x y z:Operand}{A:Nat→Prop}{σ:Type}[GoT σ]{B:Nat}{L:List Ob}{i mb:Nat}{F:Int→Option (List σ)}
theorem zpM(F:Int→Option (List σ))(f:Hp B A w L)(hB:B≤w.heap.size)(a:∀b,w.heap.size≤b→A b)(g:Nat.blt d n.sz=true)(c:∀mb w1 A1,Hp B A1 w1 (obMF F mb::L)→Tr Dw B A w A1 w1→V P n ops Q rest ((d,.map (some mb))::E) w1):
  V P n ops Q (⟨some d,.makeMap t none,ty,pos,af,none⟩::rest) E w :=
 V_y (w':=w.alloc (.map #[] 0)) (v := .map (some w.heap.size)) (fun i a=>by simp only[execOp];rfl) rfl rfl g
  (c _ _ _ (f.new (zaH (Dw:=Dw) B _ a) hB ⟨rfl,#[],0,heap_alloc_new w _,fun j h=>by simp at h⟩ fun b e=>by simp at e;subst e;exact⟨Nat.le_refl _,fun c=>c.2 rfl⟩) ((zaH B _ a).tr hB))
theorem zql{k:Int}{h:Value}(D:Hp B A w L)(hi:L[i]?=some (obMF F mb))(l:P.underlying t=some (.map kt et))(c:P.underlying kt=some (.int .i64))(G:∀w,(zeroValue et).run P w=.ok h w)(m:ev E x=some (.map (some mb)))(o:ev E y=some (.int .i64 k))(p:Nat.blt d n.sz=true)(H:∀v f,F k=some f→Sl A w v f→V P n ops Q rest ((d,.tuple #[v,.bool true])::E) w)(I:V P n ops Q rest ((d,.tuple #[h,.bool false])::E) w):
  V P n ops Q (⟨some d,.lookup t x y true,ty,pos,af,none⟩::rest) E w:=by{
 obtain⟨T,⟨rfl,q,R,r,s⟩,_,_⟩:=D.at hi
 have z:∀a∈q.toList,MapKept.IsKey (.int .i64) a.key:=fun a J=>by
  obtain⟨d,f,e,_⟩:=s a J
  rw[e]
  rfl
 have g:MapKept.IsKey (.int .i64) (.int .i64 k):=rfl;rcases MapKept.findNow_spec g q.toList 0 z with ⟨j,u⟩|⟨U,a,j,u,K⟩;refine V_y (w':=w) (v := .tuple #[h,.bool false]) (fun O b=>?_) rfl rfl p I;simp only[execOp,b.eval m,b.eval o,Instr.lookup];simp[run_underlying l,MapKept.run_getObj_map r,MapKept.run_checkKey c g,MapKept.run_findKey c j,Result.andThen,G];obtain⟨S,f,e,M,N⟩:=s a (List.mem_of_getElem? u);rw[K]at e;cases e;refine V_y (w':=w) (v := .tuple #[a.val,.bool true]) (fun O b=>?_) rfl rfl p (H _ _ M N);simp only[execOp,b.eval m,b.eval o,Instr.lookup];simp[run_underlying l,MapKept.run_getObj_map r,MapKept.run_checkKey c g,MapKept.run_findKey c j,Result.andThen]}
theorem zne{k:Int}{l:List σ}(a3:Hp B A w L)(hi:L[i]?=some (obMF F mb))(O:P.underlying t=some (.map kt et))(e:P.underlying kt=some (.int .i64))(a4:F k=some l)(a5:Sl A w v l)(R:ev E x=some (.map (some mb)))(S:ev E y=some (.int .i64 k))(T:ev E z=some v)(hB:B≤w.heap.size)(a6:∀b,w.heap.size≤b→A b)(c:∀w1,Hp B A w1 (L.set i (obMF F mb))→Tr Dw B A w A w1→V P n ops Q rest E w1):
  V P n ops Q (⟨none,.mapUpdate t x y z,ty,pos,af,none⟩::rest) E w:=by{
 obtain⟨b4,⟨rfl,j,J,m,U⟩,D,Z⟩:=a3.at hi
 have a0:∀a∈j.toList,MapKept.IsKey (.int .i64) a.key:=fun a g=>by
  obtain⟨d,l,a7,_⟩:=U a g
  rw[a7]
  rfl
 have r:MapKept.IsKey (.int .i64) (.int .i64 k):=rfl;have b2:mb<w.heap.size:=(Array.getElem?_eq_some_iff.1 m).1
 have s:∀o,Mv Dw B A w A { w with heap:=w.heap.setIfInBounds mb o } (some mb):=fun o =>
  ⟨rfl,rfl,rfl,by simp,fun _=>Nat.le_refl _,fun k e a1=>by
   show (w.heap.setIfInBounds mb o)[k]?=w.heap[k]?
   exact (MapKept.heap_set m).2 k fun a=>a1 (by rw[a]),fun k e=>by cases e;exact⟨(D mb (by simp)).1,(D mb (by simp)).2.2⟩,fun _ c=>c,fun _ _ c=>c,fun G p=>a6 G (by simpa using p)⟩
 have M:∀o,Ex A w A { w with heap:=w.heap.setIfInBounds mb o }:=fun o=>(s o).ex
 have N:∀u I,(∀a∈u.toList,a∈j.toList∨(a.key=.int .i64 k∧a.val=v))→Hp B A { w with heap:=w.heap.setIfInBounds mb (.map u I) } (L.set i (obMF F mb)):=fun u I a2 =>
  Z A _ (some mb) (obMF F mb) [mb] (s _) (fun k e=>by cases e;simp) ⟨rfl,u,I,(MapKept.heap_set m).1,fun a g=>by
   rcases a2 a g with c|⟨a8,a9⟩
   ·obtain⟨d,l,q,H,K⟩:=U a c
    exact⟨d,l,q,H,K.keep (M _)⟩
   ·exact⟨k,l,a8,a4,by rw[a9];exact a5.keep (M _)⟩⟩ fun G p=>⟨.inl p,(D G p).1,(D G p).2.2⟩
 rcases MapKept.findNow_spec r j.toList 0 a0 with ⟨q,H⟩|⟨X,a,q,H,K⟩;refine V_s (w' := { w with heap:=w.heap.setIfInBounds mb (.map (j.push { key := .int .i64 k,val:=v,born:=J }) (J+1)) }) (fun b1 h=>?_) rfl rfl (c _ (N _ _ fun a g=>?_) ((s _).tr hB));simp only[execOp,h.eval R,h.eval S,h.eval T,Instr.mapUpdate];simp[run_underlying O,MapKept.run_getObj_map m,MapKept.run_checkKey e r,MapKept.run_findKey e q,MapKept.run_setObj_map _ m,Result.andThen];simp only[Array.toList_push,List.mem_append,List.mem_singleton]at g;rcases g with c|rfl;exact .inl c;exact .inr ⟨rfl,rfl⟩;have b0:j[X]?=some a:=by rw[← Array.getElem?_toList];exact H
 refine V_s (w' := { w with heap:=w.heap.setIfInBounds mb (.map (j.modify X fun a => { a with key := .int .i64 k,val:=v }) J) }) (fun b1 h=>?_) rfl rfl (c _ (N _ _ fun b3 g=>?_) ((s _).tr hB));simp only[execOp,h.eval R,h.eval S,h.eval T,Instr.mapUpdate];simp[run_underlying O,MapKept.run_getObj_map m,MapKept.run_checkKey e r,MapKept.run_findKey e q,MapKept.run_setObj_map _ m,MapKept.run_keyThatStays r,b0,K,Result.andThen];obtain⟨W,f⟩:=List.mem_iff_getElem?.1 g;rw[Array.getElem?_toList,Array.getElem?_modify]at f;split at f;cases h9:j[W]? with
 | none=>rw[h9]at f;simp at f
 | some e0=>rw[h9]at f;simp at f;subst f;exact .inr ⟨rfl,rfl⟩
 exact .inl (by rw[List.mem_iff_getElem?];exact⟨W,by rw[Array.getElem?_toList];exact f⟩)}
end steps
section ops
variable{P:Program}{n:Fr}{E:Env}{w:World}{ρd:Option Nat}{ty t t2:TypeId}{pos:String}{af:Array Edge}{g:Option (Nat×Bool)}{x y:Operand}
theorem zqN{a b:Bool}(e:P.underlying t=some .bool)(f:ev E x=some (.bool a))(h:ev E y=some (.bool b)):Y P n E ⟨ρd,.binOp .neq t x y t2,ty,pos,af,g⟩ w (.bool (!(a==b))) w:=fun _ c=>by
 obtain⟨d,i⟩:∃d,Op.maxDepth=d+1:=⟨_,rfl⟩
 simp only[execOp,c.eval f,c.eval h]
 simp[eqGuard,binOp,Op.equal,i,Op.equalIn,underlying,e]
theorem zqg{xs a:Array Value}{b:Bool}(h:∀w,(Op.equalIn 10000 t (.agg xs) (.agg a)).run P w=.ok b w)(d:P.eqGuardType P.depth t=false)(e:ev E x=some (.agg xs))(f:ev E y=some (.agg a)):Y P n E ⟨ρd,.binOp .neq t x y t2,ty,pos,af,g⟩ w (.bool (!b)) w:=fun _ c=>by
 simp only[execOp,c.eval e,c.eval f]
 simp[run_eqGuard_agg w _ _ _ _ _ _ d,run_neq_struct w,h]
end ops
end Go.Gw
