/- The types of what the laws are asked at. It bears no condition. -/
import Derived.Test.YtphddjolipaejaaWjE
namespace Go.Proofs.Ytphddjolipaejaa
open Go Go.Im
def types : List TypeId := [3, 4, 5, 22, 23, 24, 25, 27, 29, 47]
end Go.Proofs.Ytphddjolipaejaa
