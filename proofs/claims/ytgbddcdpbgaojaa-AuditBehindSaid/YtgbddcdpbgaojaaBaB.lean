import Derived.Test.YtgbddcdpbgaojaaBaA
namespace Go.Proofs.Ytgbddcdpbgaojaa
open Go Go.Im
def stP (c : Nat → List IV → Nat → List IV → Bool) (g : List IV → List IV → Bool → Bool) : SpecF := fun xs T => match xs, T with
  | [.agg [.int .i64 k, .int .u32 h, .int .u32 p, .int .i64 a, .fsl nl cl z b], .fsl nl' cl' z' x, .bool kn], [] => [(c z b z' x, .bool (g b x kn), [])]
  | _, _ => []
end Go.Proofs.Ytgbddcdpbgaojaa
