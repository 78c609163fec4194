/- Closed facts on the seat's program: its types' rows, and append at bytes. No condition. -/
import Derived.Test.YtcmmnfeodmjpkaaRows
import Derived.Test.YtcmmnfeodmjpkaaFrame
namespace Go.Proofs.Ytcmmnfeodmjpkaa
open Go.RowKit
theorem seatOwn : ownKnob Try.prog.godebug = none := by kernel_rfl
theorem seatLaid : laidOutB Try.prog = true := by kernel_rfl
theorem info_u8 : (Try.prog.info? 5).map (fun i => (i.zero, i.size, i.bytes)) = some (some (.int .u8 0), 1, 1) := by kernel_rfl

theorem appB {w : World} {ops : Array Oper} {rest : List Oper} {o : Oper} {a : Act} {Q : Exit → Act → World → Prop} (hgd : o.guard = none) (s x : Operand)
    (ho : o.op = .call { callee := .builtin .append, args := #[s, x], argTypes := #[22, 22] })
    {base : Nat} {v : Value} {l : List UInt8} (hown : OwnB w base 5 v l) {ad : Option Addr} {mn c : Nat} {m : List UInt8} (hsrc : Bytes w ad mn m) (hs : a.eval s = v) (hx : a.eval x = .slice ad mn c)
    (hbase : base ≤ w.heap.size) (hsmall : l.length + m.length ≤ 140737488355328)
    (h : ∀ a' cap' w', OwnB w' base 5 (.slice a' (l ++ m).length cap') (l ++ m) → w.grownBy w' (blk v) → (blk (.slice a' (l ++ m).length cap') = blk v ∨ ∃ k, blk (.slice a' (l ++ m).length cap') = some k ∧ w.heap.size ≤ k) → wpList Try.prog ops Q rest (a.put o.dst (.slice a' (l ++ m).length cap')) w') : wpList Try.prog ops Q (o :: rest) a w := by
  obtain ⟨i, hi, hz, hs1, hb1⟩ := info_parts info_u8
  exact appB_run 22 5 i _ Try.underlying22 hi hz hs1 hb1 rfl hgd s x ho hown hsrc hs hx hbase hsmall h
end Go.Proofs.Ytcmmnfeodmjpkaa
