/- What the reference's functions over rows of fractions compute: Sum, Product, Min, Max. -/
import Derived.Test.YtohlmpibnnkanaaGreatRef04A
set_option linter.all false
namespace Go.Proofs.YtohlmpibnnkanaaGreat
open Go.RowKit
attribute [local irreducible] vcOps VS


end Go.Proofs.YtohlmpibnnkanaaGreat
