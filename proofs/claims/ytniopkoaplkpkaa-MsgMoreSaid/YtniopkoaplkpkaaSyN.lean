/- Long regions, whose operations the program's form puts together out of two lists. Over any program. No condition. -/
import Derived.Test.YtniopkoaplkpkaaSyD
namespace Go.Proofs.Ytniopkoaplkpkaa
open Go.RowKit
namespace Sy
theorem app_step {P : Program} {ops : Array Oper} {Q : Exit → Act → World → Prop} {o : Oper} {r s : List Oper} {a : Act} {w : World} (h : wpList P ops Q (o :: List.append r s) a w) : wpList P ops Q (List.append (o :: r) s) a w := h
theorem app_nil {P : Program} {ops : Array Oper} {Q : Exit → Act → World → Prop} {s : List Oper} {a : Act} {w : World} (h : wpList P ops Q s a w) : wpList P ops Q (List.append [] s) a w := h
end Sy
end Go.Proofs.Ytniopkoaplkpkaa
