import Derived.Test.YtlcbjjgmkllceaaQBe
/- FrameNexts. -/
namespace Go.Proofs.Ytlcbjjgmkllceaa
open Go.RowKit

end Go.Proofs.Ytlcbjjgmkllceaa
