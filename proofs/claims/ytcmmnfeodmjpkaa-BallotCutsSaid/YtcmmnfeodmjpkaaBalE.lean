/- Two ballots are the same where their numbers are. Over any world. No condition. -/
import Derived.Test.YtcmmnfeodmjpkaaBalX
namespace Go.Proofs.Ytcmmnfeodmjpkaa
open Go.RowKit
set_option linter.unusedVariables false
namespace Bl
def same (a b : B) : Bool := decide (a.c = b.c ∧ a.n = b.n ∧ a.l = b.l)
theorem run_eql (a b : B) (w : World) : (binOp .eql 45 a.v b.v).run Try.prog w = .ok (.bool (same a b)) w := by
  unfold B.v same
  obtain ⟨ac, an, al, h1, h2, h3⟩ := a
  obtain ⟨bc, bn, bl, h4, h5, h6⟩ := b
  simp only
  by_cases e1 : ac = bc <;> by_cases e2 : an = bn <;> by_cases e3 : al = bl <;> go_simp <;> omega
def zero : B := ⟨0, 0, 0, by omega, by omega, by omega⟩
theorem run_eqz (a : B) (w : World) : (binOp .eql 45 a.v (.agg #[.int .u64 0, .int .u8 0, .int .u32 0])).run Try.prog w = .ok (.bool (same a zero)) w := run_eql a zero w
end Bl
end Go.Proofs.Ytcmmnfeodmjpkaa
