import Derived.Test.YtligccioljhapaaGreatDoorIb
namespace Go.Gw
open Go Go.RowKit Go.Pu
variable{Dw:Prop}
set_option linter.unusedSimpArgs false
set_option linter.unusedVariables false
section
variable{P:Program}{nn:Fr}{ops:Array Oper}{Q:Exit→Act→World→Prop}{E:Env}{w:World}{rest:List Oper}{α:Type}[GoT α]{d:Nat}
variable{ty t e:TypeId}{pos:String}{af:Array Edge}{x y:Operand}{A:Nat→Prop}{B:Nat}{L:List Ob}{k:Nat}{l:List α}
def moved_{α:Type}(l:List α)(i j:Nat):List α:=l.take i++l.drop j++l.drop (i+(l.length-j))
theorem zmx{ρd:Option Nat}{gd:Option (Nat×Bool)}{k:IntKind}{g len cap lo sz:Nat}(b:lo≤len)(c:len≤cap)(d:P.underlying t=some (.slice e))(f:∀w,(Go.sizeOf e).run P w=.ok sz w)(h:ev E x=some (.slice (some ⟨g,0,none⟩) len cap))(i:ev E y=some (.int k (lo:Int))):Y P nn E ⟨ρd,.slice t x (some y) none none,ty,pos,af,gd⟩ w (.slice (some (if lo<cap then ⟨g,lo*sz,none⟩ else ⟨g,0,none⟩)) (len-lo) (cap-lo)) w:=by{
 by_cases a:lo<cap;rw[if_pos a];have:=zlx (P:=P) (n:=nn) (E:=E) (ty:=ty) (pos:=pos) (af:=af) (ρd:=ρd) (gd:=gd) (w:=w) (o:=0) b a c d f h i;rwa[Nat.zero_add]at this;rw[if_neg a];have l:lo=cap:=by omega
 have j:=zcW (P:=P) (n:=nn) (E:=E) (ty:=ty) (pos:=pos) (af:=af) (ρd:=ρd) (g:=gd) (w:=w) (sz:=sz) (v := .slice (some ⟨g,0,none⟩) len cap) (lo:=(lo:Int)) (k:=k) ⟨some ⟨g,0,none⟩,len,cap,lo,len,rfl,rfl,rfl,b,Nat.le_refl _,c,rfl⟩ d f h i;rw[if_pos (by omega)]at j;exact j}
variable{z m:Operand}{ρd:Option Nat}{gd:Option (Nat×Bool)}
end
end Go.Gw
