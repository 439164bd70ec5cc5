/-
  Names: as RouteBase has them.
-/
import Derived.Test.YtgmenjhmnjhgoaaDoorRouteMatchesRouteBase
namespace Go.Proofs.YtgmenjhmnjhgoaaDoor.M
end Go.Proofs.YtgmenjhmnjhgoaaDoor.M
