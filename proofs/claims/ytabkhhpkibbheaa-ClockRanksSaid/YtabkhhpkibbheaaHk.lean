import Derived.Test.YtabkhhpkibbheaaGe
namespace Go.Gw
open Go Go.RowKit Go.Pu
theorem Hp.un {B : Nat} {A : Nat → Prop} {w : World} {L M : List Ob} (h : Hp B A w (obE (fun _ : Unit => M) :: L)) : Hp B A w (M ++ L) := let ⟨_, h⟩ := Hp.open h; h
end Go.Gw
