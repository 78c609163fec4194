/- Closed facts on the seat's program: its types' rows, and append at bytes. No condition. -/
import Derived.Test.YtniopkoaplkpkaaRows
import Derived.Test.YtniopkoaplkpkaaFrame
namespace Go.Proofs.Ytniopkoaplkpkaa
open Go.RowKit
theorem seatOwn : ownKnob Try.prog.godebug = none := by kernel_rfl
theorem seatLaid : laidOutB Try.prog = true := by kernel_rfl
theorem info_u8 : (Try.prog.info? 5).map (fun i => (i.zero, i.size, i.bytes)) = some (some (.int .u8 0), 1, 1) := by kernel_rfl

theorem appB {w : World} {ops : Array Oper} {rest : List Oper} {o : Oper} {a : Act} {Q : Exit → Act → World → Prop} (hgd : Region.wanted o (yielded ops a.tmps) = true) (s x : Operand)
    (ho : o.op = .call { callee := .builtin .append, args := #[s, x], argTypes := #[27, 27] })
    {base : Nat} {v : Value} {l : List UInt8} (hown : OwnB w base 5 v l) {ad : Option Addr} {mn c : Nat} {m : List UInt8} (hsrc : Bytes w ad mn m) (hs : a.eval s = v) (hx : a.eval x = .slice ad mn c)
    (hbase : base ≤ w.heap.size) (hsmall : l.length + m.length ≤ 140737488355328)
    (h : ∀ a' m' cap' w', OwnB w' base 5 (.slice a' m' cap') (l ++ m) → w.grownBy w' (blk v) → (blk (.slice a' m' cap') = blk v ∨ ∃ k, blk (.slice a' m' cap') = some k ∧ w.heap.size ≤ k) → wpList Try.prog ops Q rest (a.put o.dst (.slice a' m' cap')) w') : wpList Try.prog ops Q (o :: rest) a w := by
  obtain ⟨i, hi, hz, hs1, hb1⟩ := info_parts info_u8
  exact appB_run 27 5 i _ Try.underlying27 hi hz hs1 hb1 rfl hgd s x ho hown hsrc hs hx hbase hsmall h

/-- 'string(b)': the string of the bytes -/
theorem convStr {w : World} {a : Option Addr} {n : Nat} {l : List UInt8} (h : Bytes w a n l) (cap : Nat) :
    (convert 27 9 (.slice a n cap)).run Try.prog w = .ok (.string ⟨l.toArray⟩) w := by
  obtain ⟨rfl, _, hc⟩ := h
  rcases hc with h | ⟨b, o, rfl, hc⟩
  · obtain rfl : l = [] := by simpa using h
    cases a with
    | none => exact run_convert_bytes_nil w 27 5 Try.underlying27 Try.underlying5 _ _ _ Try.underlying9
    | some ad => exact run_convert_bytes_back w _ _ 5 ad cap [] Try.underlying27 Try.underlying5 Try.underlying9 (by simp)
  · exact run_convert_bytes_back w _ _ 5 _ cap l Try.underlying27 Try.underlying5 Try.underlying9 fun j hj => by
      rw [addr_add, hc j (by simpa using hj)]; simp [bv]
end Go.Proofs.Ytniopkoaplkpkaa
