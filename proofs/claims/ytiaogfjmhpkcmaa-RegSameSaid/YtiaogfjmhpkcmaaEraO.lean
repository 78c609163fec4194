/- Arguments that are registers, marks, erasings, answers, opened. No condition. -/
import Derived.Test.YtiaogfjmhpkcmaaEraD
namespace Go.Proofs.Ytiaogfjmhpkcmaa
open Go.ChangeShapes Go.WideShapes Go.ChangeAt Go.RowKit Go.Deep
set_option linter.unusedVariables false
namespace Rg

section
variable {H : Type} {enc : TypeId × Value → H} {W : World} {spare : Nat → Bool} {b2 : Nat} {held : Bool}
set_option maxRecDepth 100000 in
theorem reg_arg {v : Value} {d : DataW H} {ps : List MemPlace} {base : Nat} (hval : Value.okWide Try.prog W .any base 28 v) (h : DataW.Trod enc Try.prog W b2 spare held 28 v d ps) :
    ∃ (r : RegD) (p : RegA), v = .agg (regCs r p).toArray ∧ RegAt W r p := by
  obtain ⟨cs, rfl, hsz⟩ := okWide_struct Try.underlying28 hval
  obtain ⟨fuel, hf⟩ := h
  obtain ⟨r, p, e, h'⟩ := reg_open _ _ _ hf
  simp [Value.cells] at e
  exact ⟨r, p, by rw [← e], h'⟩
set_option maxRecDepth 100000 in
theorem mark_arg {v : Value} {d : DataW H} {ps : List MemPlace} {base : Nat} (hval : Value.okWide Try.prog W .any base 30 v) (h : DataW.Trod enc Try.prog W b2 spare held 30 v d ps) :
    ∃ m : MarkD, v = .agg #[.int .u8 (m.source : Int), .int .u64 (m.inc : Int), .int .u64 (m.cell : Int)] ∧ U8 m.source ∧ U64 m.inc ∧ U64 m.cell := by
  obtain ⟨cs, rfl, hsz⟩ := okWide_struct Try.underlying30 hval
  obtain ⟨fuel, hf⟩ := h
  obtain ⟨m, e, h'⟩ := mark_open _ _ _ hf
  have e2 : cs.toList = [.int .u8 (m.source : Int), .int .u64 (m.inc : Int), .int .u64 (m.cell : Int)] := by simpa [Value.cells] using e
  exact ⟨m, by rw [← Array.toArray_toList (xs := cs), e2], h'⟩
set_option maxRecDepth 100000 in
theorem era_arg {v : Value} {d : DataW H} {ps : List MemPlace} {base : Nat} (hval : Value.okWide Try.prog W .any base 38 v) (h : DataW.Trod enc Try.prog W b2 spare held 38 v d ps) :
    ∃ (x : EraD) (p : RegA), v = .agg (eraCs x p).toArray ∧ EraAt W x p := by
  obtain ⟨cs, rfl, hsz⟩ := okWide_struct Try.underlying38 hval
  obtain ⟨fuel, hf⟩ := h
  obtain ⟨r, p, e, h'⟩ := era_open _ _ _ hf
  simp [Value.cells] at e
  exact ⟨r, p, by rw [← e], h'⟩
theorem list26' {l : List Value} (h : l.length = 26) : ∃ c0 c1 c2 c3 c4 c5 c6 c7 c8 c9 c10 c11 c12 c13 c14 c15 c16 c17 c18 c19 c20 c21 c22 c23 c24 c25, l = [c0, c1, c2, c3, c4, c5, c6, c7, c8, c9, c10, c11, c12, c13, c14, c15, c16, c17, c18, c19, c20, c21, c22, c23, c24, c25] := by
  match l, h with
  | [c0, c1, c2, c3, c4, c5, c6, c7, c8, c9, c10, c11, c12, c13, c14, c15, c16, c17, c18, c19, c20, c21, c22, c23, c24, c25], _ => exact ⟨_, _, _, _, _, _, _, _, _, _, _, _, _, _, _, _, _, _, _, _, _, _, _, _, _, _, rfl⟩
theorem op_open (fuel : Nat) (cs : List Value) (x : DataW H × List MemPlace) (h : DataW.trod enc Try.prog W b2 spare held fuel 40 cs = some x) : ∃ o : OpD, cs = opCs o := by
  obtain ⟨hl, n, hg⟩ := struct_parts Try.underlying40 h
  obtain ⟨y0, h0⟩ := hg 0 5 0 1 rfl (by kernel_rfl)
  obtain ⟨y1, h1⟩ := hg 1 5 1 1 rfl (by kernel_rfl)
  obtain ⟨y2, h2⟩ := hg 2 5 2 1 rfl (by kernel_rfl)
  obtain ⟨y3, h3⟩ := hg 3 22 3 1 rfl (by kernel_rfl)
  obtain ⟨y4, h4⟩ := hg 4 3 4 1 rfl (by kernel_rfl)
  obtain ⟨y5, h5⟩ := hg 5 3 5 1 rfl (by kernel_rfl)
  obtain ⟨y6, h6⟩ := hg 6 2 6 1 rfl (by kernel_rfl)
  obtain ⟨y7, h7⟩ := hg 7 5 7 1 rfl (by kernel_rfl)
  obtain ⟨y8, h8⟩ := hg 8 22 8 1 rfl (by kernel_rfl)
  obtain ⟨y9, h9⟩ := hg 9 22 9 1 rfl (by kernel_rfl)
  rw [show Try.prog.cellsOf 40 = 10 from by kernel_rfl] at hl
  match cs, hl with
  | [c0, c1, c2, c3, c4, c5, c6, c7, c8, c9], _ =>
    obtain ⟨n0, e0, w0⟩ := int_cells Try.underlying5 h0
    obtain ⟨n1, e1, w1⟩ := int_cells Try.underlying5 h1
    obtain ⟨n2, e2, w2⟩ := int_cells Try.underlying5 h2
    obtain ⟨n3, e3, w3⟩ := int_cells Try.underlying22 h3
    obtain ⟨n4, e4, w4⟩ := int_cells Try.underlying3 h4
    obtain ⟨n5, e5, w5⟩ := int_cells Try.underlying3 h5
    obtain ⟨n6, e6, w6⟩ := int_cells Try.underlying2 h6
    obtain ⟨n7, e7, w7⟩ := int_cells Try.underlying5 h7
    obtain ⟨n8, e8, w8⟩ := int_cells Try.underlying22 h8
    obtain ⟨n9, e9, w9⟩ := int_cells Try.underlying22 h9
    simp at e0 e1 e2 e3 e4 e5 e6 e7 e8 e9
    subst e0 e1 e2 e3 e4 e5 e6 e7 e8 e9
    have b0 := bounds_u8 w0
    have b1 := bounds_u8 w1
    have b2 := bounds_u8 w2
    have b3 := bounds_u64 w3
    have b4 := bounds_i64 w4
    have b5 := bounds_i64 w5
    have b6 := bounds_i64 w6
    have b7 := bounds_u8 w7
    have b8 := bounds_u64 w8
    have b9 := bounds_u64 w9
    refine ⟨⟨n0.toNat, n1.toNat, n2.toNat, n3.toNat, n4, n5, n6, n7.toNat, n8.toNat, n9.toNat⟩, ?_⟩
    unfold opCs
    simp only
    rw [show ((n0.toNat : Nat) : Int) = n0 from by omega, show ((n1.toNat : Nat) : Int) = n1 from by omega, show ((n2.toNat : Nat) : Int) = n2 from by omega, show ((n3.toNat : Nat) : Int) = n3 from by omega, show ((n7.toNat : Nat) : Int) = n7 from by omega, show ((n8.toNat : Nat) : Int) = n8 from by omega, show ((n9.toNat : Nat) : Int) = n9 from by omega]
theorem ans_open (fuel : Nat) (cs : List Value) (x : DataW H × List MemPlace) (h : DataW.trod enc Try.prog W b2 spare held fuel 45 cs = some x) : ∃ (d : AnsD) (pr : RepA) (p : RegA), cs = ansCs d pr p ∧ AnsAt W d pr p := by
  obtain ⟨hl, n, hg⟩ := struct_parts Try.underlying45 h
  obtain ⟨y0, h0⟩ := hg 0 22 0 1 rfl (by kernel_rfl)
  obtain ⟨y1, h1⟩ := hg 1 40 1 10 rfl (by kernel_rfl)
  obtain ⟨y2, h2⟩ := hg 2 43 11 4 rfl (by kernel_rfl)
  obtain ⟨y3, h3⟩ := hg 3 28 15 8 rfl (by kernel_rfl)
  obtain ⟨y4, h4⟩ := hg 4 36 23 3 rfl (by kernel_rfl)
  rw [show Try.prog.cellsOf 45 = 26 from by kernel_rfl] at hl
  obtain ⟨c0, c1, c2, c3, c4, c5, c6, c7, c8, c9, c10, c11, c12, c13, c14, c15, c16, c17, c18, c19, c20, c21, c22, c23, c24, c25, rfl⟩ := list26' hl
  obtain ⟨n0, e0, w0⟩ := int_cells Try.underlying22 h0
  obtain ⟨o, e1⟩ := op_open _ _ _ h1
  obtain ⟨r, pr, e2, q2⟩ := rep_open _ _ _ h2
  obtain ⟨g, p, e3, q3⟩ := reg_open _ _ _ h3
  obtain ⟨b, e4, q4⟩ := bal_open _ _ _ h4
  simp [opCs, repCs, regCs, balCs] at e0 e1 e2 e3 e4
  obtain ⟨rfl, rfl, rfl, rfl, rfl, rfl, rfl, rfl, rfl, rfl⟩ := e1
  obtain ⟨rfl, rfl, rfl, rfl⟩ := e2
  obtain ⟨rfl, rfl, rfl, rfl, rfl, rfl, rfl, rfl⟩ := e3
  obtain ⟨rfl, rfl, rfl⟩ := e4
  subst e0
  have b0 := bounds_u64 w0
  refine ⟨⟨n0.toNat, o, r, g, b⟩, pr, p, ?_, ⟨q2, q3, q4⟩⟩
  unfold ansCs
  simp only
  rw [show ((n0.toNat : Nat) : Int) = n0 from by omega]
set_option maxRecDepth 100000 in
theorem ans_arg {v : Value} {d : DataW H} {ps : List MemPlace} {base : Nat} (hval : Value.okWide Try.prog W .any base 45 v) (h : DataW.Trod enc Try.prog W b2 spare held 45 v d ps) :
    ∃ (x : AnsD) (pr : RepA) (p : RegA), v = .agg (ansCs x pr p).toArray ∧ AnsAt W x pr p := by
  obtain ⟨cs, rfl, hsz⟩ := okWide_struct Try.underlying45 hval
  obtain ⟨fuel, hf⟩ := h
  obtain ⟨r, pr, p, e, h'⟩ := ans_open _ _ _ hf
  simp [Value.cells] at e
  exact ⟨r, pr, p, by rw [← e], h'⟩
end
end Rg
end Go.Proofs.Ytiaogfjmhpkcmaa
