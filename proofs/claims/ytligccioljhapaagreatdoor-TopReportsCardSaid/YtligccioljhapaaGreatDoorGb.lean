import Derived.Test.YtligccioljhapaaGreatDoorGf
import Derived.Handed
namespace Go.Gw
open Go Go.RowKit
theorem zcb{u:Type}{enc:TypeId×Value→u}{a:Assume}{C:Checked}{os:Os}{f:FuncId}{fn:Func}{s:ChangeSpec}{m:List PathCond}{d o n p:Bool}{X:World→Array Value→Prop}(K:∀(w w':World) (b:Array Value),w.heap=w'.heap→X w b→X w' b)(own:ownKnob C.prog.godebug=none)(x:os.Started)(z:C.prog.inits.idxOf? f=none)(F:C.prog.funcs[f]?=some fn)(y:∃(w:World) (c:Tape) (i:Input),w.os=os∧(w.forCall c i).Shaped C.prog∧i.vars=[]∧Input.okWide C.prog (w.forCall c i) .any w.heap.size f i∧
   ((s.pre enc C.prog fn m d (w.forCall c i).memory i.args∧X (w.forCall c i).memory i.args)∧sizedMet enc C.prog fn (OpenSpec.ofChange s) d (w.forCall c i).memory i.args)∧a.holds C.prog (lone (Frame.enter C.prog f i.args .normal) [] (w.forCall c i)))(v:∀(W:World) (base:Nat) (b:Array Value) (ds g:List (DataW u)) (l:List MemPlace),
   (∀(j:Nat) t e,fn.params[j]?=some t→b[j]?=some e→Value.okWide C.prog W .any base t e)→
   DataW.Whole enc C.prog fn.params.toList s.vars d W b.toList ds g l→
   m.all (PathCond.test C.prog ⟨fn.params.toList,ds,s.plain.varTypes C.prog,g⟩)=true→
   (DataW.weightsEach C.prog (fn.params.toList++s.plain.varTypes C.prog) (ds++g)).all (·≤reachBytes)=true→X W b→
   a.holds C.prog (lone (Frame.enter C.prog f b .normal) [] W)→W.ShapedOpen C.prog→
   Calls C.prog f b W fun h q=>∃e,h=.returned e∧s.post enc C.prog fn d o n p W b e q):
  ReturnsInHanded a C os f .any (fun w b=>(s.pre enc C.prog fn m d w b∧X w b)∧sizedMet enc C.prog fn (OpenSpec.ofChange s) d w b) (s.post enc C.prog fn d o n p):=by{refine returnsInHanded_of_calls own x z y ?_;intro w c i _ G _ H B A;obtain⟨_,_,_,I,D,_,_,_,_,E⟩:=H;have h:I=fn:=Option.some.inj (D.symm.trans F);subst h;obtain⟨⟨⟨ds,g,l,r,L⟩,M⟩,N⟩:=B;have J:=DataW.Whole.of_heap (w':=w.forCall c i) (by rfl) r;refine (v (w.forCall c i) w.heap.size i.args ds g l E J L (N.weights r) (K _ _ _ (by rfl) M) A G).mono fun h q ⟨e,O,hp⟩=>?_;subst O;exact ChangeSpec.post_blind hp}
end Go.Gw
