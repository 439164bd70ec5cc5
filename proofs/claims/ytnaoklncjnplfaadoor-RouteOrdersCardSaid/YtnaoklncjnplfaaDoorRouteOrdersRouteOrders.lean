/-
  Order: plain part.
-/
import Derived.Test.YtnaoklncjnplfaaDoorRouteOrdersRouteOrder
namespace Go.Proofs.YtnaoklncjnplfaaDoor.M
open Go Go.Pu
set_option linter.unusedSimpArgs false
set_option linter.unusedVariables false

theorem orders_true (l : List route_Work) (hs : ∀ w ∈ l, ∀ k ∈ w.needs, k.name.size ≤ 9223372036854775807) : portlaw2_RouteOrders l = some true := by
  obtain ⟨r, h1, h2, h3⟩ := work_eq l hs
  have key : ∃ x, route_Order l = some x ∧ portref2_OrderOf l = some x := by
    unfold route_Order portref2_OrderOf
    rw [h1, h2, Option.bind_some, Option.bind_some]
    by_cases h0 : (r != 0) = true
    · rw [if_pos h0, if_pos h0]
      exact ⟨_, rfl, rfl⟩
    · have hr : r = 0 := by simpa using h0
      rw [if_neg h0, if_neg h0, route_order_val l (h3 hr), ref_order_val l (h3 hr)]
      exact ⟨_, rfl, rfl⟩
  obtain ⟨x, a, b⟩ := key
  unfold portlaw2_RouteOrders
  rw [a, b, Option.bind_some, Option.bind_some, if_pos (by simp), equal_ints]
  rfl
end Go.Proofs.YtnaoklncjnplfaaDoor.M
