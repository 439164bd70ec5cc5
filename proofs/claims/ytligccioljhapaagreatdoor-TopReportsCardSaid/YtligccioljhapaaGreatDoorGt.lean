import Derived.Test.YtligccioljhapaaGreatDoorGk
import Derived.Test.YtligccioljhapaaGreatDoorGq
namespace Go.Gw
open Go Go.RowKit Go.Pu
variable{Dw:Prop}
set_option linter.unusedSimpArgs false
set_option linter.unusedVariables false
structure Ptr where
 b:Nat
instance:GoT Ptr where
 cells:=1
 wf _:=True
 rep _ _ cs x:=cs=[.pointer (some ⟨x.b,0,none⟩)]
 len h:=by subst h;rfl
 one h u hu:=by subst h;simp at hu;subst hu;rfl
 keep h _:=h
abbrev obQ(p:Prop):Ob:=obF (fun _ _=>p) (fun h _=>h)
section
variable{γ:Type}(f:Nat→γ→Ob)
def psZ(ps:List Ptr)(cs:List γ):List Ob:=List.zipWith (fun p c=>f p.b c) ps cs
def psL(e:TypeId)(v:Value)(cs:List γ)(ps:List Ptr):List Ob:=obQ (ps.length=cs.length)::obS e v ps::psZ f ps cs
def obPS(e:TypeId)(v:Value)(cs:List γ):Ob:=obE (psL f e v cs)
def obPX(e:TypeId)(v:Value)(cs:List γ)(k b:Nat):Ob:=obE (fun ps=>obQ (ps.length=cs.length∧ps[k]?=some (⟨b⟩:Ptr))::obS e v ps::(psZ f ps cs).eraseIdx k)
end
theorem zcU{α:Type}{x:α}:∀{l:List α} {i:Nat},l[i]?=some x→l.Perm (x::l.eraseIdx i)
 | [],_,h=>by simp at h
 | y::l,0,h=>by simp at h;subst h;exact .refl _
 | y::l,i+1,h=>by
  simp at h
  exact ((zcU h).cons y).trans (.swap _ _ _)
theorem zgF{α:Type}{x y:α}:∀{l:List α} {i:Nat},l[i]?=some x→(y::l.eraseIdx i).Perm (l.set i y)
 | [],_,h=>by simp at h
 | z::l,0,h=>by simp
 | z::l,i+1,h=>by
  simp at h
  exact (List.Perm.swap _ _ _).trans ((zgF h).cons z)
section
variable{B:Nat}{A A1:Nat→Prop}{w w1:World}{L M:List Ob}{O:Ob}{i k:Nat}{γ:Type}{f:Nat→γ→Ob}{e:TypeId}{v:Value}{cs:List γ}{c:γ}
end
section steps
variable{P:Program}{n:Fr}{ops:Array Oper}{Q:Exit→Act→World→Prop}{E:Env}{w:World}{rest:List Oper}{v u:Value}{d:Nat}{W:World→Prop}{QA:Act→Prop}
variable{ty t e:TypeId}{pos:String}{af:Array Edge}{x y z:Operand}{A:Nat→Prop}{B:Nat}{L:List Ob}{i:Nat}{γ:Type}{f:Nat→γ→Ob}{cs:List γ}{c:γ}
end steps
end Go.Gw
