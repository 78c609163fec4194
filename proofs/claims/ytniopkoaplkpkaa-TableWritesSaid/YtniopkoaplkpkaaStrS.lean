/- Bytes made strings, and strings compared, in the walk. No condition. -/
import Derived.Test.YtniopkoaplkpkaaSeat
import Derived.Test.YtniopkoaplkpkaaSyC
import Derived.Test.YtniopkoaplkpkaaTab
namespace Go.Proofs.Ytniopkoaplkpkaa
open Go.RowKit
set_option linter.unusedVariables false
set_option linter.unusedSimpArgs false
namespace Sy
section
variable {a : Act} {n : Nat} {ts : List (Nat × Value)} {w : World} {ty : TypeId} {pos : String} {af : Array Edge}
  {ops : Array Oper} {Q : Exit → Act → World → Prop} {rest : List Oper}
theorem st_str {d : Nat} {x : Operand} {ad : Option Addr} {k cap : Nat} {l : List UInt8} (T : Tm a n ts) (hb : Bytes w ad k l) (hx : ev ts x = some (.slice ad k cap) := by exact rfl) (hd : Nat.blt d n = true := by exact rfl)
    (h : ∀ a', Tm a' n ((d, .string ⟨l.toArray⟩) :: ts) → wpList Try.prog ops Q rest a' w) : wpList Try.prog ops Q (⟨some d, .convert 27 9 x, ty, pos, af, none⟩ :: rest) a w :=
  st_val (Runs.of fun _ _ _ _ => by simp [execOp, T.eval hx, convStr hb cap]) T hd h
theorem st_strEq {d : Nat} {x y : Operand} {s1 s2 : ByteArray} (T : Tm a n ts) (hx : ev ts x = some (.string s1) := by exact rfl) (hy : ev ts y = some (.string s2) := by exact rfl) (hd : Nat.blt d n = true := by exact rfl)
    (h : ∀ a', Tm a' n ((d, .bool (s1.toList == s2.toList)) :: ts) → wpList Try.prog ops Q rest a' w) : wpList Try.prog ops Q (⟨some d, .binOp .eql 9 x y 9, ty, pos, af, none⟩ :: rest) a w :=
  st_val (Runs.of fun _ _ _ _ => by
    have hu := Try.underlying9
    simp [execOp, T.eval hx, T.eval hy, eqGuard, binOp, Op.stringOp]) T hd h
end
end Sy
end Go.Proofs.Ytniopkoaplkpkaa
