/-
  Programs: validity on both sides.
-/
import Derived.Test.YtabfdnkomhjlkaaPvI
import Derived.Test.YtabfdnkomhjlkaaPvT
namespace Go.Proofs.Ytabfdnkomhjlkaa
end Go.Proofs.Ytabfdnkomhjlkaa
