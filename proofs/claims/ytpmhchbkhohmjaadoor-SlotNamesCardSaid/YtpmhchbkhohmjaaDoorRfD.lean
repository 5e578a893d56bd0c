/-
  Walks of the reference of chapter 07: Along, Tallest, Places.
-/
import Derived.Test.YtpmhchbkhohmjaaDoorRfC
namespace Go.Proofs.YtpmhchbkhohmjaaDoor
open Go.RowKit

end Go.Proofs.YtpmhchbkhohmjaaDoor
