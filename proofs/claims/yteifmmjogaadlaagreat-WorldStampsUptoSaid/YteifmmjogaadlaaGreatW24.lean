/- survives. -/
import Derived.Test.YteifmmjogaadlaaGreatW23
import Derived.Test.YteifmmjogaadlaaGreatW20
import Derived.Test.YteifmmjogaadlaaGreatW18
namespace Go.Proofs.Wd
open Go.RowKit Tw
end Go.Proofs.Wd
