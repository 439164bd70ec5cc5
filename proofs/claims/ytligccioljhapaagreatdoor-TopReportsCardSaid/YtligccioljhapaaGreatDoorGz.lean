import Derived.Test.YtligccioljhapaaGreatDoorGt
import Derived.Sort.Grow
namespace Go.Gw
open Go Go.RowKit Go.Pu Go.Sort
variable{Dw:Prop}
set_option linter.unusedSimpArgs false
set_option linter.unusedVariables false
theorem zeK{A:Nat→Prop}{w:World}:∀{l:List Int} {cs:List Value},repL A w cs l↔cs=l.map (Value.int .i64)
 | [],cs=>Iff.rfl
 | x::l,cs=>by
  constructor
  ·rintro⟨c1,c2,rfl,h1,h2⟩
   rw[zeK.1 h2,show c1=[.int .i64 x] from h1];rfl
  ·rintro rfl
   exact⟨[.int .i64 x],l.map (Value.int .i64),rfl,rfl,zeK.2 rfl⟩
theorem zdn{α:Type}[Inhabited α](enc:α→Value)(a:List α)(c:Array Value)(d:a.length≤c.size):(putCells enc 0 a.toArray c).toList.take a.length=a.map enc:=by{apply List.ext_getElem?;intro k;rw[List.getElem?_take,List.getElem?_map];by_cases b:k<a.length;rw[if_pos b];simp only[putCells,Array.getElem?_toList,Array.getElem?_mapIdx];rw[Array.getElem?_eq_getElem (by omega),List.getElem?_eq_getElem b];simp[b];rw[if_neg b,List.getElem?_eq_none (by omega)];rfl}
section
variable{P:Program}{f:FuncId}{B:Nat}{A:Nat→Prop}{w:World}{L:List Ob}{i:Nat}{e:TypeId}{v:Value}
theorem Hp.sortInts{l r:List Int}(U:∀w,Calls P f #[.slice none 0 0] w fun e j=>e=.returned (.tuple #[])∧j=w)(W:∀(p off cap:Nat) (q:List Int) (w:World),Holds (Value.int .i64) w p off q.toArray→p<w.heap.size→q.length<4611686018427387904→
   Calls P f #[.slice (some ⟨p,off,none⟩) q.length cap] w fun e j=>e=.returned (.tuple #[])∧∃y s,j=grow (putRow (Value.int .i64) (Go.Sort.ahead w y) p off (q.mergeSort fun c g=>decide (c≤g)).toArray) s)(I:Hp B A w L)(hi:L[i]?=some (obS (α:=Int) e v l))(hB:B≤w.heap.size)(J:∀h,w.heap.size≤h→A h)(D:(if l.length<4611686018427387904 then some (l.mergeSort fun c g=>decide (c≤g)) else none)=some r):
  Ret P f #[v] w fun a0 j=>a0=.tuple #[]∧Hp B A j (L.set i (obS e v r))∧Tr Dw B A w A j:=by{
 split at D;case isFalse=>cases D
 rename_i hsz;cases D;obtain⟨a1,hp,t,Q⟩:=I.at hi;rcases hp with ⟨rfl,rfl,rfl⟩|⟨a,cap,F,a2,rfl,rfl,u,K,X,E,Z,M⟩;refine Calls.mono (U w) ?_;rintro _ _⟨rfl,rfl⟩;refine⟨_,rfl,rfl,?_,.refl J⟩;rw[List.mergeSort_nil]
 have:L.set i (obS (α:=Int) e (.slice none 0 0) [])=L:=by
  apply List.ext_getElem?
  intro k
  rw[List.getElem?_set]
  split
  rename_i b
  subst b
  split
  exact hi.symm
  rename_i hk2
  rw[List.getElem?_eq_none (by omega)]at hi
  cases hi
  rfl
 rw[this];exact I;have G:=(Array.getElem?_eq_some_iff.1 u).1;have z:GoT.cells Int=1:=rfl;rw[z,Nat.mul_one]at E M;have S:=zeK.1 Z
 have O:Holds (Value.int .i64) w a 0 l.toArray:=by
  intro N x
  simp at x
  constructor
  simp only[World.cell?,u,Nat.zero_add]
  have:(F.toList.take l.length)[N]?=(l.map (Value.int .i64))[N]?:=by rw[M,S]
  rw[List.getElem?_take,if_pos x,List.getElem?_map,List.getElem?_eq_getElem x]at this
  simpa [x]using this
  simp[World.frozen?,u]
 refine Calls.mono (W a 0 cap l w O G hsz) ?_;rintro _ _⟨rfl,y,s,rfl⟩;refine⟨_,rfl,rfl,?_⟩;have o:(l.mergeSort fun c g=>decide (c≤g)).length=l.length:=List.length_mergeSort _;generalize (l.mergeSort fun c g=>decide (c≤g))=d at o
 have R:(grow (putRow (Value.int .i64) (Go.Sort.ahead w y) a 0 d.toArray) s).heap[a]?=some (.cells (putCells (Value.int .i64) 0 d.toArray F) e (0,0)):=by
  rw[heap_grow_old _ _ (by simpa [putRow,mapBlock,Go.Sort.ahead]using G)]
  simp only[putRow,mapBlock,Go.Sort.ahead,Array.getElem?_modify,if_pos rfl,u]
  rfl
 have H:Mv Dw B A w A (grow (putRow (Value.int .i64) (Go.Sort.ahead w y) a 0 d.toArray) s) (some a):=by
  refine⟨rfl,rfl,rfl,by simp[putRow,mapBlock,Go.Sort.ahead,grow],fun _=>Nat.le_add_right _ _,fun k b T=>?_,fun k b=>by cases b;exact⟨(t a (by simp)).1,(t a (by simp)).2.2⟩,fun _ n=>n,fun _ _ n=>n,fun h m=>J h (Nat.le_trans (by simp[putRow,mapBlock,Go.Sort.ahead,grow]) m)⟩
  rw[heap_grow_old _ _ (by simpa [putRow,mapBlock,Go.Sort.ahead]using b)]
  simp only[putRow,mapBlock,Go.Sort.ahead,Array.getElem?_modify]
  rw[if_neg (fun n=>T (by rw[n]))]
 refine⟨Q A _ (some a) (obS e (.slice (some ⟨a,0,none⟩) l.length cap) d) [a] H (fun k b=>by cases b;simp) ?_ fun h m=>⟨.inl m,(t h m).1,(t h m).2.2⟩,H.tr hB⟩;refine .inr ⟨a,cap,_,d.map (Value.int .i64),by rw[o],rfl,R,by rw[o];exact K,X,by rw[z,Nat.mul_one];simpa [putCells]using E,zeK.2 rfl,?_⟩;rw[z,Nat.mul_one];exact zdn _ _ _ (by rw[o,E];exact K)}
end
end Go.Gw
