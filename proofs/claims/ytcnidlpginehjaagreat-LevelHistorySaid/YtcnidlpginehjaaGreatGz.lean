import Derived.Test.YtcnidlpginehjaaGreatGt
import Derived.Sort.Grow
namespace Go.Gw
open Go Go.RowKit Go.Pu Go.Sort
variable{Dw:Prop}
set_option linter.unusedSimpArgs false
set_option linter.unusedVariables false
theorem zdR{A:Nat→Prop}{w:World}:∀{l:List Int} {cs:List Value},repL A w cs l↔cs=l.map (Value.int .i64)
 | [],cs=>Iff.rfl
 | x::l,cs=>by
  constructor
  ·rintro⟨c1,c2,rfl,h1,h2⟩
   rw[zdR.1 h2,show c1=[.int .i64 x] from h1];rfl
  ·rintro rfl
   exact⟨[.int .i64 x],l.map (Value.int .i64),rfl,rfl,zdR.2 rfl⟩
theorem zek{α:Type}[Inhabited α](enc:α→Value)(a:List α)(c:Array Value)(e:a.length≤c.size):(putCells enc 0 a.toArray c).toList.take a.length=a.map enc:=by{apply List.ext_getElem?;intro d;rw[List.getElem?_take,List.getElem?_map];by_cases b:d<a.length;rw[if_pos b];simp only[putCells,Array.getElem?_toList,Array.getElem?_mapIdx];rw[Array.getElem?_eq_getElem (by omega),List.getElem?_eq_getElem b];simp[b];rw[if_neg b,List.getElem?_eq_none (by omega)];rfl}
section
variable{P:Program}{f:FuncId}{B:Nat}{A:Nat→Prop}{w:World}{L:List Ob}{i:Nat}{e:TypeId}{v:Value}
theorem Hp.sortInts{l r:List Int}(U:∀w,Calls P f #[.slice none 0 0] w fun e j=>e=.returned (.tuple #[])∧j=w)(W:∀(o off cap:Nat) (p:List Int) (w:World),Holds (Value.int .i64) w o off p.toArray→o<w.heap.size→p.length<4611686018427387904→
   Calls P f #[.slice (some ⟨o,off,none⟩) p.length cap] w fun e j=>e=.returned (.tuple #[])∧∃x q,j=grow (putRow (Value.int .i64) (Go.Sort.ahead w x) o off (p.mergeSort fun c g=>decide (c≤g)).toArray) q)(I:Hp B A w L)(hi:L[i]?=some (obS (α:=Int) e v l))(hB:B≤w.heap.size)(J:∀h,w.heap.size≤h→A h)(z:(if l.length<4611686018427387904 then some (l.mergeSort fun c g=>decide (c≤g)) else none)=some r):
  Ret P f #[v] w fun a0 j=>a0=.tuple #[]∧Hp B A j (L.set i (obS e v r))∧Tr Dw B A w A j:=by{
 split at z;case isFalse=>cases z
 rename_i hsz;cases z;obtain⟨a1,hp,s,Q⟩:=I.at hi;rcases hp with ⟨rfl,rfl,rfl⟩|⟨a,cap,F,a2,rfl,rfl,t,K,X,D,Z,M⟩;refine Calls.mono (U w) ?_;rintro _ _⟨rfl,rfl⟩;refine⟨_,rfl,rfl,?_,.refl J⟩;rw[List.mergeSort_nil]
 have:L.set i (obS (α:=Int) e (.slice none 0 0) [])=L:=by
  apply List.ext_getElem?
  intro E
  rw[List.getElem?_set]
  split
  rename_i b
  subst b
  split
  exact hi.symm
  rename_i hk2
  rw[List.getElem?_eq_none (by omega)]at hi
  cases hi
  rfl
 rw[this];exact I;have G:=(Array.getElem?_eq_some_iff.1 t).1;have y:GoT.cells Int=1:=rfl;rw[y,Nat.mul_one]at D M;have S:=zdR.1 Z
 have O:Holds (Value.int .i64) w a 0 l.toArray:=by
  intro N u
  simp at u
  constructor
  simp only[World.cell?,t,Nat.zero_add]
  have:(F.toList.take l.length)[N]?=(l.map (Value.int .i64))[N]?:=by rw[M,S]
  rw[List.getElem?_take,if_pos u,List.getElem?_map,List.getElem?_eq_getElem u]at this
  simpa [u]using this
  simp[World.frozen?,t]
 refine Calls.mono (W a 0 cap l w O G hsz) ?_;rintro _ _⟨rfl,x,q,rfl⟩;refine⟨_,rfl,rfl,?_⟩;have n:(l.mergeSort fun c g=>decide (c≤g)).length=l.length:=List.length_mergeSort _;generalize (l.mergeSort fun c g=>decide (c≤g))=d at n
 have R:(grow (putRow (Value.int .i64) (Go.Sort.ahead w x) a 0 d.toArray) q).heap[a]?=some (.cells (putCells (Value.int .i64) 0 d.toArray F) e (0,0)):=by
  rw[heap_grow_old _ _ (by simpa [putRow,mapBlock,Go.Sort.ahead]using G)]
  simp only[putRow,mapBlock,Go.Sort.ahead,Array.getElem?_modify,if_pos rfl,t]
  rfl
 have H:Mv Dw B A w A (grow (putRow (Value.int .i64) (Go.Sort.ahead w x) a 0 d.toArray) q) (some a):=by
  refine⟨rfl,rfl,rfl,by simp[putRow,mapBlock,Go.Sort.ahead,grow],fun _=>Nat.le_add_right _ _,fun E b T=>?_,fun E b=>by cases b;exact⟨(s a (by simp)).1,(s a (by simp)).2.2⟩,fun _ m=>m,fun _ _ m=>m,fun h k=>J h (Nat.le_trans (by simp[putRow,mapBlock,Go.Sort.ahead,grow]) k)⟩
  rw[heap_grow_old _ _ (by simpa [putRow,mapBlock,Go.Sort.ahead]using b)]
  simp only[putRow,mapBlock,Go.Sort.ahead,Array.getElem?_modify]
  rw[if_neg (fun m=>T (by rw[m]))]
 refine⟨Q A _ (some a) (obS e (.slice (some ⟨a,0,none⟩) l.length cap) d) [a] H (fun E b=>by cases b;simp) ?_ fun h k=>⟨.inl k,(s h k).1,(s h k).2.2⟩,H.tr hB⟩;refine .inr ⟨a,cap,_,d.map (Value.int .i64),by rw[n],rfl,R,by rw[n];exact K,X,by rw[y,Nat.mul_one];simpa [putCells]using D,zdR.2 rfl,?_⟩;rw[y,Nat.mul_one];exact zek _ _ _ (by rw[n,D];exact K)}
end
end Go.Gw
