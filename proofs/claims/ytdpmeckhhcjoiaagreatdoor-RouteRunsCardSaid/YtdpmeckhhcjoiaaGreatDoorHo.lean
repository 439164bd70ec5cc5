import Derived.Test.YtdpmeckhhcjoiaaGreatDoorHa
import Derived.Maps.RangeRun
namespace Go.Gw
open Go Go.RowKit Go.Pu Go.ChangeMaps
variable{Dw:Prop}
set_option linter.unusedSimpArgs false
set_option linter.unusedVariables false
section steps
variable{P:Program}{n:Fr}{ops:Array Oper}{Q:Exit→Act→World→Prop}{E:Env}{w:World}{rest:List Oper}{u:Value}{d:Nat}
variable{ty t kt et:TypeId}{pos:String}{af:Array Edge}{x y z:Operand}{A:Nat→Prop}{B:Nat}{L:List Ob}{i j mb rb:Nat}{es:Array MapEntry}{clk since c0:Nat}{seen:Array Nat}
theorem zsF(o:Obj)(k:mb<w.heap.size)(hB:B≤mb)(e:¬A mb)(h:∀d,w.heap.size≤d→A d):Mv Dw B A w A (setBlock w mb o) (some mb) :=
 ⟨rfl,rfl,rfl,by simp[setBlock],fun _=>Nat.le_refl _,fun a c f=>by
  show (w.heap.setIfInBounds mb o)[a]?=w.heap[a]?
  rw[Array.getElem?_setIfInBounds_ne (fun j=>f (by rw[j]))],fun a c=>by cases c;exact⟨hB,e⟩,fun _ b=>b,fun _ _ b=>b,fun i g=>h i (by simpa [setBlock]using g)⟩
theorem znt(b:Hp B A w L)(hi:L[i]?=some (obO mb (.map es clk)))(h:P.underlying t=some (.map kt et))(j:ev E x=some (.map (some mb)))(hB:B≤w.heap.size)(c:∀f,w.heap.size≤f→A f)(k:Nat.blt d n.sz=true)(m:∀rb a e,Hp B e a (obO rb (.mapIter (some mb) clk #[] clk)::L)→Tr Dw B A w e a→V P n ops Q rest ((d,.pointer (some ⟨rb,0,none⟩))::E) a):
  V P n ops Q (⟨some d,.range t x,ty,pos,af,none⟩::rest) E w:=by{
 obtain⟨q,⟨rfl,l⟩,p,o⟩:=b.at hi
 exact V_y (w':=w.alloc (.mapIter (some mb) clk #[] clk)) (v := .pointer (some ⟨w.heap.size,0,none⟩)) (fun r g=>by simp only[execOp,g.eval j];simp[run_range_map w t kt et mb es clk h l]) rfl rfl k
  (m _ _ _ (b.alloc _ hB c) ((zaH B _ c).tr hB))}
theorem zoL(q:Hp B A w L)(hi:L[i]?=some (obO mb (.map es clk)))(H:L[j]?=some (obO rb (.mapIter (some mb) since seen c0)))(r:ev E x=some (.pointer (some ⟨rb,0,none⟩)))(z:∀a∈es.toList,a.born<since)(F:since≤c0)(hB:B≤w.heap.size)(s:∀y,w.heap.size≤y→A y)(t:Nat.blt d n.sz=true)(I:(leftOf es seen).size=0→V P n ops Q rest ((d,.tuple #[.bool false])::E) w)(J:∀a b,a∈(leftOf es seen).toList→Hp B A b (L.set j (obO rb (.mapIter (some mb) since (seen.push a.born) clk)))→Tr Dw B A w A b→V P n ops Q rest ((d,.tuple #[.bool true,a.key,a.val])::E) b):
  V P n ops Q (⟨some d,.next x false,ty,pos,af,none⟩::rest) E w:=by{
 obtain⟨_,⟨rfl,K⟩,_,_⟩:=q.at hi;obtain⟨T,⟨rfl,u⟩,c,D⟩:=q.at H;rcases run_next_at (P:=P) w ty rb mb since c0 seen es clk u K z F with ⟨M,m⟩|⟨a,N,b,v,m⟩;exact V_y (w':=w) (v := .tuple #[.bool false]) (fun S k=>by simp only[execOp,k.eval r];simp[m]) rfl rfl t (I M);have l:rb<w.heap.size:=(Array.getElem?_eq_some_iff.1 u).1
 have p:Mv Dw B A w A (setBlock b rb (.mapIter (some mb) since (seen.push a.born) clk)) (some rb):=by
  rcases v with rfl|rfl
  exact zsF _ l (c rb (by simp)).1 (c rb (by simp)).2.2 s
  exact⟨rfl,rfl,rfl,by show w.heap.size≤(w.heap.setIfInBounds rb _).size;simp,fun _=>Nat.le_succ _,fun h g G=>by
   show (w.heap.setIfInBounds rb _)[h]?=w.heap[h]?
   rw[Array.getElem?_setIfInBounds_ne (fun a=>G (by rw[a]))],fun h g=>by cases g;exact⟨(c rb (by simp)).1,(c rb (by simp)).2.2⟩,fun _ o=>o,fun _ _ o=>o,fun f e=>s f (by have O:(w.heap.setIfInBounds rb (.mapIter (some mb) since (seen.push a.born) clk)).size≤f:=e;simpa using O)⟩
 have R:(setBlock b rb (.mapIter (some mb) since (seen.push a.born) clk)).heap[rb]?=some (.mapIter (some mb) since (seen.push a.born) clk):=by
  rcases v with rfl|rfl
  show (b.heap.setIfInBounds rb _)[rb]?=_
  simp[l]
  show (w.heap.setIfInBounds rb _)[rb]?=_
  simp[l]
 exact V_y (w':=setBlock b rb (.mapIter (some mb) since (seen.push a.born) clk)) (v := .tuple #[.bool true,a.key,a.val]) (fun S k=>by simp only[execOp,k.eval r];simp[m]) rfl rfl t
  (J a _ N (D A _ (some rb) _ [rb] p (fun h g=>by cases g;simp) ⟨rfl,R⟩ fun f e=>⟨.inl e,(c f e).1,(c f e).2.2⟩) (p.tr hB))}
theorem znx{e:MapEntry}(a:Hp B A w L)(hi:L[i]?=some (obO mb (.map es clk)))(f:L[j]?=some (obO rb (.mapIter (some mb) since (seen.push e.born) clk)))(g:ev E x=some (.pointer (some ⟨rb,0,none⟩)))(h:e∈es.toList)(b:(es.toList.map (·.born)).Nodup):Y P n E ⟨some d,.entry x,ty,pos,af,none⟩ w (.tuple #[e.key,e.val]) w:=by{obtain⟨_,⟨rfl,k⟩,_,_⟩:=a.at hi;obtain⟨p,⟨rfl,l⟩,o,m⟩:=a.at f;intro q c;simp only[execOp,c.eval g];simp[run_entry_at w rb mb since seen es clk e l k h b]}
end steps
end Go.Gw
