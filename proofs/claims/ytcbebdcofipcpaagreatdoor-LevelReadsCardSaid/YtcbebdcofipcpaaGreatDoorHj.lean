/-
  How long a text can be that came in: off a card's reach.
-/
import Derived.Test.YtcbebdcofipcpaaGreatDoorGf
import Derived.SizedLaws
namespace Go.Gw
open Go Go.RowKit Go.Pu Go.ChangeShapes Go.WideShapes Go.ChangeAt
set_option linter.unusedSimpArgs false
set_option linter.unusedVariables false
theorem str_datum {P : Program} {t : TypeId} {w : World} {H : Type} {enc : TypeId × Value → H} {x : ByteArray} {d : DataW H} {p : List MemPlace} (hu : P.underlying t = some .string)
    (hr : DataW.Trod enc P w 0 (fun _ => true) true t (.string x) d p) : d = .lit (.string x.data.toList) := by
  obtain ⟨fuel, hf⟩ := hr
  obtain ⟨s, hs, hx, _⟩ := DataW.trod_string hu hf
  have : s = x := by simpa [Value.cells] using hs.symm
  subst this
  exact congrArg Prod.fst hx
theorem str_size {P : Program} {ts : List TypeId} {H : Type} {ds : List (DataW H)} (h : (DataW.weightsEach P ts ds).all (· ≤ reachBytes) = true) {j : Nat} {t : TypeId} {x : ByteArray} (ht : ts[j]? = some t) (hd : ds[j]? = some (.lit (.string x.data.toList))) : x.size ≤ 140737488355328 := by
  have h1 := sized_string h ht hd
  have h2 := reachBytes_lt
  have : x.data.toList.length = x.size := by
    show x.data.toList.length = x.data.size
    simp
  omega
end Go.Gw
