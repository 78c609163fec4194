/- Append at bytes as one operation, for regions that draw their order. No condition. -/
import Derived.Test.YtcmmnfeodmjpkaaSeat
import Derived.WalkSpells
import Derived.Deep.RegionHeld3
namespace Go.Proofs.Ytcmmnfeodmjpkaa
open Go.RowKit
theorem wp_appB {w : World} {K : Act → World → Prop} {o : Oper} {a : Act} {Q : Exit → Act → World → Prop} (s x : Operand)
    (ho : o.op = .call { callee := .builtin .append, args := #[s, x], argTypes := #[22, 22] })
    {base : Nat} {v : Value} {l : List UInt8} (hown : OwnB w base 5 v l) {ad : Option Addr} {mn c : Nat} {m : List UInt8} (hsrc : Bytes w ad mn m) (hs : a.eval s = v) (hx : a.eval x = .slice ad mn c)
    (hbase : base ≤ w.heap.size) (hsmall : l.length + m.length ≤ 140737488355328)
    (h : ∀ a' m' cap' w', OwnB w' base 5 (.slice a' m' cap') (l ++ m) → w.grownBy w' (blk v) → K (a.put o.dst (.slice a' m' cap')) w') : o.wp Try.prog a w K Q := by
  obtain ⟨i, hi, hz, hs1, hb1⟩ := info_parts info_u8
  obtain ⟨rfl, _, hsrc2⟩ := hsrc
  refine wp_append_Own w s x 22 ho base 5 i _ 1 1 Try.underlying22 hi hz hs1 hb1 rfl (by omega) v l.length (l.map bv) hs hown ad m.length c (m.map bv) hx (by simp) hsrc2 (bv_one m) (by omega) (by omega) hbase ?_
  intro a' cap' w' h1 h2 _
  have e1 : l.length + m.length = (l ++ m).length := by simp
  rw [e1] at h1 ⊢
  exact h a' _ cap' w' (by unfold OwnB; rw [List.map_append]; exact h1) h2
end Go.Proofs.Ytcmmnfeodmjpkaa
