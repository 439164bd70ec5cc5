import Derived.Test.YtligccioljhapaaGreatDoorHa
namespace Go.Gw
open Go Go.RowKit Go.Pu
variable{Dw:Prop}
set_option linter.unusedSimpArgs false
set_option linter.unusedVariables false
section
variable{κ α:Type}[Mk κ][Cel α]
def Fm(A:Nat→Prop)(w:World)(mb:Nat)(l:List (κ×α)):Prop:=A mb∧mb<w.heap.size∧∃es clk,w.heap[mb]?=some (.map es clk)∧es.toList.map (fun e=>(e.key,e.val))=l.map encE∧(l.map (·.1)).Nodup
variable{A A1:Nat→Prop}{w w1:World}{B mb:Nat}{l:List (κ×α)}{L:List Ob}{i:Nat}
theorem Fm.keep(m:Fm A w mb l)(a:Ex A w A1 w1):Fm A1 w1 mb l:=by{obtain⟨d,b,e,c,f,g,h⟩:=m;obtain⟨i,j⟩:=a.block mb b d;exact⟨i,Nat.lt_of_lt_of_le b a.size,e,c,j.trans f,g,h⟩}
theorem Fm.kp(b:Fm A w mb l)(a:Kp Dw w w1):Fm A w1 mb l:=b.keep (.kp a)
theorem Fm.tr(a:Fm A w mb l)(m:Tr Dw B A w A1 w1):Fm A1 w1 mb l:=a.keep m.ex
theorem Fm.hp(a:Fm A w mb l):Hp 0 (fun _=>False) w [obSM mb l]:=by{obtain⟨e,c,d⟩:=a;exact⟨[mb],⟨[mb], [],rfl,by simp,⟨rfl,d⟩,rfl⟩,fun f b=>by simp at b;subst b;exact⟨Nat.zero_le _,c,fun a=>a⟩⟩}
instance:GoT (Fmap κ α) where
 cells:=1
 wf _:=True
 rep A w cs x:=∃mb,cs=[.map (some mb)]∧Fm A w mb x.l
 len h:=by obtain⟨mb,rfl,_⟩:=h;rfl
 one {_ _ _ x} h u hu:=by obtain⟨mb,rfl,_⟩:=h;simp at hu;subst hu;rfl
 keep h he:=by obtain⟨mb,e,h1⟩:=h;exact⟨mb,e,h1.keep he⟩
theorem El.map{b off:Nat}{x:Fmap κ α}(d:El A w b off x):∃mb,w.cell? ⟨b,off,none⟩=some (.map (some mb))∧Fm A w mb x.l:=by{obtain⟨e,f,g,⟨mb,rfl,a⟩,c⟩:=d;refine⟨mb,?_,a⟩;have:=c 0 (.map (some mb)) rfl;simpa using this}
end
end Go.Gw
