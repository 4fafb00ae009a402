/- Versions handed over, counted and compared by the laws' own functions. -/
import Derived.Test.YtdheoaefmacamaaVerP
import Derived.Test.YtdheoaefmacamaaConvD
namespace Go.Proofs.Ytdheoaefmacamaa
open Go.RowKit Go.Deep
set_option linter.unusedVariables false

/-- A version comes back, its dependencies in memory of the callee's own. -/
def GivesVer (v : Vp) (w : World) (e : Ending) (w' : World) : Prop := ∃ (a : Option Addr) (c : Nat), e = .returned (.agg #[.int .i64 v.key, .int .i64 v.time, .int .i64 v.site, .int .i64 v.val, .int .i64 v.client, .int .i64 v.call, .slice a v.deps.length c]) ∧ w'.ownsRow w.heap.size 48 3 (.slice a v.deps.length c) v.deps.length (dpsC v.deps) ∧ Below w.heap.size w w'

end Go.Proofs.Ytdheoaefmacamaa
