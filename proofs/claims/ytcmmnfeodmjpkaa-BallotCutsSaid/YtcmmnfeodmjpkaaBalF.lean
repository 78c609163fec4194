/- A ballot that comes in by value: three numbers, each in its kind. -/
import Derived.Test.YtcmmnfeodmjpkaaSeat
import Derived.Test.YtcmmnfeodmjpkaaBalW
import Derived.Lib.SmallJoins
namespace Go.Proofs.Ytcmmnfeodmjpkaa
open Go.ChangeShapes Go.WideShapes Go.ChangeAt Go.RowKit
set_option linter.unusedVariables false

theorem ballot_of {H : Type} {enc : TypeId × Value → H} {W : World} {v : Value} {d : DataW H} {ps : List MemPlace} {spare : Nat → Bool} {base b2 : Nat} {held : Bool}
    (hval : Value.okWide Try.prog W .any base 45 v) (h : DataW.Trod enc Try.prog W b2 spare held 45 v d ps) : ∃ b : Bl.B, v = b.v := by
  obtain ⟨v0, v1, v2, y0, y1, y2, n, rfl, _, _, h0, h1, h2⟩ := Joins.open_agg3 (P := Try.prog) Try.underlying45 (by kernel_rfl) (by kernel_rfl) hval h
  obtain ⟨n0, e0, _, w0⟩ := DataW.trod_int Try.underlying24 h0
  obtain ⟨n1, e1, _, w1⟩ := DataW.trod_int Try.underlying5 h1
  obtain ⟨n2, e2, _, w2⟩ := DataW.trod_int Try.underlying39 h2
  simp at e0 e1 e2
  subst e0 e1 e2
  have b0 := bounds_u64 w0
  have b1 := bounds_u8 w1
  have b2 := bounds_u32 w2
  refine ⟨⟨n0.toNat, n1.toNat, n2.toNat, by omega, by omega, by omega⟩, ?_⟩
  unfold Bl.B.v
  simp only
  rw [show ((n0.toNat : Nat) : Int) = n0 from by omega, show ((n1.toNat : Nat) : Int) = n1 from by omega, show ((n2.toNat : Nat) : Int) = n2 from by omega]
end Go.Proofs.Ytcmmnfeodmjpkaa
