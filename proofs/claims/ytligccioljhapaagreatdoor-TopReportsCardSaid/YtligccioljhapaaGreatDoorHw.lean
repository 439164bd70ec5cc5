import Derived.Test.YtligccioljhapaaGreatDoorHq
import Derived.Test.YtligccioljhapaaGreatDoorGp
namespace Go.Gw
open Go Go.RowKit Go.Pu
variable{Dw:Prop}
set_option linter.unusedSimpArgs false
set_option linter.unusedVariables false
section steps
variable{P:Program}{n:Fr}{ops:Array Oper}{Q:Exit→Act→World→Prop}{E:Env}{w:World}{rest:List Oper}{d:Nat}
variable{ty t t2 e:TypeId}{pos:String}{af:Array Edge}{x y z:Operand}{A:Nat→Prop}{ρd:Option Nat}{gd:Option (Nat×Bool)}{B:Nat}{L:List Ob}{i:Nat}
theorem zmC{k:IntKind}{sz:Nat}(b:P.underlying t=some (.slice e))(c:∀w,(Go.sizeOf e).run P w=.ok sz w)(d:ev E x=some (.slice none 0 0))(f:ev E z=some (.int k 0)):Y P n E ⟨ρd,.slice t x none (some z) none,ty,pos,af,gd⟩ w (.slice none 0 0) w:=by{intro g a;simp[execOp,a.eval d,a.eval f,Instr.sliceAt,Instr.slice,Instr.sliceBounds,Instr.sliceBound,asIntOf,underlying,b,c,Addr.add]}
theorem zkA{s:IntKind}{k size bytes:Nat}{ti:TypeInfo}{b:Value}(O:Hp B A w L)(R:P.underlying t=some (.slice e))(H:P.underlying t2=some (.int s))(I:P.info? e=some ti)(S:ti.zero=some b)(D:ti.size=size)(J:ti.bytes=bytes)(K:b.cells.size=size)(T:0<size)(c:0<k)(M:k≤maxLen)(G:k*bytes≤140737488355328)(hB:B≤w.heap.size)(U:∀f,w.heap.size≤f→A f)(W:ev E x=some (.slice none 0 0))(X:ev E y=some (.int .i64 (k:Int)))(Z:Nat.blt d n.sz=true)(o:∀u a row m v,Hp B v m (obO u (.cells row e (0,0))::L)→Tr Dw B A w v m→k≤a→a≤maxLen→row.size=a*size→V P n ops Q rest ((d,.slice (some ⟨u,0,none⟩) k a)::E) m):
  V P n ops Q (⟨some d,.call ⟨.builtin .append,#[x,y],#[t,t2]⟩,ty,pos,af,none⟩::rest) E w:=by{
 subst D;subst J;have z:((0+k:Nat):Int)≤9223372036854775807:=by simp only[maxLen]at M;omega
 have F:(Builtin.firstCells ti.size 0 (.slice none 0 0)).run P w.drew=.ok ([]:List Value).toArray w.drew:=by
  simp[Builtin.firstCells]
 have N:k*ti.bytes≤281474976710656:=by omega
 have j:=Go.Lib.run_append_grow_zeros (P:=P) w t t2 ty e ti b .i64 s R H I S none 0 0 [] F k c T (by omega) z N (growslice_fits (by omega) (by simpa using G));have l:=grownCap_ge w (0+k) 0 e;have p:grownCap w (0+k) 0 e≤maxLen:=grownCap_le_maxLen w (0+k) 0 e (by omega);generalize grownCap w (0+k) 0 e=a at j l p;rw[Nat.zero_add]at j l
 have q:Mv Dw B A w (fun f=>A f∧f≠w.heap.size) (w.drew.alloc (.cells (([]:List Value).toArray++Builtin.zeroCells b.cells k++Builtin.zeroCells b.cells (a-k)) e)) none:=by
  have c:=Kp.alloc (Dw:=Dw) w.drew (.cells (([]:List Value).toArray++Builtin.zeroCells b.cells k++Builtin.zeroCells b.cells (a-k)) e)
  exact⟨c.os,c.tape,c.output,c.size,fun a0=>Nat.le_trans (Nat.le_succ _) (c.dr a0),fun i g _=>c.block i g,(fun i g=>by cases g),fun i g=>g.1,fun i g a1=>⟨a1,by omega⟩,fun f h=>⟨U f (Nat.le_trans c.size h),by
   have a2:w.drew.heap.size<(w.drew.alloc (.cells (([]:List Value).toArray++Builtin.zeroCells b.cells k++Builtin.zeroCells b.cells (a-k)) e)).heap.size:=(Array.getElem?_eq_some_iff.1 (heap_alloc_new w.drew _)).1
   have a3:w.drew.heap.size=w.heap.size:=rfl
   omega⟩⟩
 refine V_y (w':=_) (v := .slice (some ⟨w.heap.size,0,none⟩) k a) (fun a4 r=>?_) rfl rfl Z (o w.heap.size a (([]:List Value).toArray++Builtin.zeroCells b.cells k++Builtin.zeroCells b.cells (a-k)) _ _ (O.new q hB (f' := [w.heap.size]) ⟨rfl,heap_alloc_new w.drew _⟩ fun f h=>by simp at h;subst h;exact⟨Nat.le_refl _,fun o=>o.2 rfl⟩) (q.tr hB) l p ?_);simp only[execOp,resolve,invoke,builtin,List.map_toArray,List.map_cons,List.map_nil,r.eval W,r.eval X];simp[j];simp only[Array.size_append,List.size_toArray,size_zeroCells,K,List.length_nil,Nat.zero_add, ← Nat.add_mul];congr 1;omega}
end steps
section
variable{P:Program}{n:Fr}{E:Env}{w:World}{v:Value}{ρd:Option Nat}{ty t e:TypeId}{pos:String}{af:Array Edge}{g:Option (Nat×Bool)}{x y:Operand}{A:Nat→Prop}
variable{α:Type}[GoT α]
end
end Go.Gw
