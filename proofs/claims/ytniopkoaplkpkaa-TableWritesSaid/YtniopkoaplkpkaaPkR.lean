/- The contracts of the document's Num, Int. Conditions: the number lies in its kind. -/
import Derived.Test.YtniopkoaplkpkaaPkM
import Derived.Test.YtniopkoaplkpkaaPackO
namespace Go.Proofs.Ytniopkoaplkpkaa
open Go.RowKit
set_option linter.unusedVariables false
set_option linter.unusedSimpArgs false
open Sy (RetV RetM Sub)
namespace Pk
theorem refNumF {w : World} (x : Nat) (hx : x < 18446744073709551616) : Calls Try.prog 87 #[.int .u64 (x : Int)] w (RetF w (numB x)) := (refNum_any (x : Int) w (by omega) (by omega)).mono fun _ _ r => retF_B r
theorem refIntF {w : World} (x : Int) (h0 : -9223372036854775808 ≤ x) (h1 : x ≤ 9223372036854775807) : Calls Try.prog 88 #[.int .i64 x] w (RetF w (numB (zig x))) := (refInt_any x w h0 h1).mono fun _ _ r => retF_B r
end Pk
end Go.Proofs.Ytniopkoaplkpkaa
