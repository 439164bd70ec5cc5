import Derived.Test.YtdpmeckhhcjoiaaGreatDoorGu
namespace Go.Gw
open Go Go.RowKit Go.Pu
variable{Dw:Prop}
set_option linter.unusedSimpArgs false
set_option linter.unusedVariables false
section
variable{P:Program}{ops:Array Oper}{md:Region.Mode}
def chZ2(Dw:Prop)(P:Program)(ops:Array Oper)(ro:Option Nat)(A:Nat→Prop)(T:Act→World→Prop)(z y:Nat)(c2:List (Nat×Nat)):List (Nat×Nat)→Act→World→Prop
 | [],a,w=>wpOpIn (FR ro) 0 P ops QF z (fun a' w'=>sw Dw A 2 w w'∧chZ Dw P ops ro A T y c2 [] a' w') a w∧wpOpIn (FR ro) 0 P ops QF y (fun a' w'=>sw Dw A 2 w w'∧chZ Dw P ops ro A T z c2 [] a' w') a w
 | (b,i)::c,a,w=>if b<2 then qOp P ops (fun w'=>cls Dw A b w w') i (fun a'=>chZ2 Dw P ops ro A T z y c2 c a' w) a
  else (wpOpIn (FR ro) 0 P ops QF z (fun a' w'=>sw Dw A 2 w w'∧chZ Dw P ops ro A T y c2 ((b,i)::c) a' w') a w∧wpOpIn (FR ro) 0 P ops QF y (fun a' w'=>sw Dw A 2 w w'∧chZ Dw P ops ro A T z c2 ((b,i)::c) a' w') a w)∧
   wpOpIn (FR ro) 0 P ops QF i (fun a' w'=>sw Dw A b w w'∧chZ2 Dw P ops ro A T z y c2 c a' w') a w
def chz2B(md:Region.Mode)(ops:Array Oper)(z y:Nat)(c1 c2:List (Nat×Nat)):Bool :=
 Region.noSelect ops&&decide (c1.length+c2.length+2=ops.size)&&chG md ops ops.size (c1++c2)&&((List.range ops.size).all fun i=>(i==z)||((i==y)||(idxs (c1++c2)).contains i))&&!(idxs (c1++c2)).contains z&&!(idxs (c1++c2)).contains y&&!(z==y) &&
  ([z,y].all fun z=>(match ops[z]? with
  | none=>false
  | some oz=>!zbp oz&&(oz.after.all fun e=>!Region.binds md e)&&c1.all fun p=>decide (2≤p.1)||match ops[p.2]? with
   | none=>false
   | some o=>o.apart ops oz&&JK o) &&
  (idxs c2).all fun j=>match ops[j]? with
   | none=>false
   | some oj=>oj.after.any fun e=>Region.binds md e&&(e.on==z||(idxs c2).contains e.on))
def CHZ2(Dw:Prop)(P:Program)(nn:Fr)(ops:Array Oper)(A:Nat→Prop)(T:Act→World→Prop)(z y:Nat)(c2 c:List (Nat×Nat))(E:Env)(w:World):Prop:=∀a,Has nn a E→chZ2 Dw P ops nn.ro A T z y c2 c a w
end
section
variable{P:Program}{nn:Fr}{Q:Exit→Act→World→Prop}{A:Nat→Prop}{T:Act→World→Prop}{E:Env}{w w0:World}{l tl r:List Oper}{o:Oper}{c c2:List (Nat×Nat)}{i n id z y:Nat}
theorem zgl{R:Act→World→Prop}(m:l.drop i=o::r){k:Nat}(e:V P nn l.toArray (Exit.then (fun g b=>sw Dw A (k+2) w b∧R g b) QF) [o] E w):∀f,Has nn f E→wpOpIn (FR nn.ro) 0 P l.toArray QF i (fun g b=>sw Dw A (k+2) w b∧R g b) f w:=by{
 intro f n;have a:=e f n;unfold wpListIn at a;unfold wpOpIn;simp only[zdR m];split;rename_i hw;rw[if_pos hw]at a;refine⟨a.1,?_⟩;have a:=a.2;generalize (o.semAt (FR nn.ro).round f.eval).run P w=r at *;cases r with
 | ok x b =>
  cases x <;> simp only[Oper.uponIn]at a ⊢ <;>
   first
    | exact a
    | exact⟨a.1,CallsIn.mono a.2 (fun h j d=>by
      cases h with
      | returned u=>exact d
      | panicked c=>exact False.elim d
      | outgrown=>exact False.elim (by obtain⟨_,_,e⟩:=d;exact e))⟩
    | exact⟨a.1,RoundIn.mono a.2 (fun h j d=>by
      cases h with
      | returned u=>exact d
      | panicked c=>exact False.elim d
      | outgrown=>exact False.elim (by obtain⟨_,_,e⟩:=d;exact e))⟩
 | halt x b=>cases x <;> simp only[Oper.uponIn]at a ⊢ <;> exact False.elim a
 rename_i hw;rw[if_neg hw]at a;exact a}
end
end Go.Gw
