/- What the reference's functions over rows of fractions compute: Sum, Product, Min, Max. -/
import Derived.Test.YtppfcobomaaceaaRef04A
namespace Go.Proofs.Ytppfcobomaaceaa
open Go.RowKit
attribute [local irreducible] vcOps VS


end Go.Proofs.Ytppfcobomaaceaa
