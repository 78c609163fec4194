/- Arguments of the laws on formulas: slices of signs and of numbers that come in. No condition. -/
import Derived.Test.YtdpmfjbhadapiaaOpen
import Derived.Test.YtdpmfjbhadapiaaExpM
namespace Go.Proofs.Ytdpmfjbhadapiaa
open Go.ChangeShapes Go.WideShapes Go.ChangeAt Go.RowKit Go.Deep
set_option linter.unusedVariables false
section
variable {H : Type} {enc : TypeId × Value → H} {W : World} {spare : Nat → Bool} {b2 : Nat} {held : Bool}

theorem choose_list {α : Type} (n : Nat) (p : Nat → α → Prop) (h : ∀ i, i < n → ∃ x, p i x) : ∃ l : List α, l.length = n ∧ ∀ i (hi : i < l.length), p i l[i] := by
  induction n with
  | zero => exact ⟨[], rfl, by simp⟩
  | succ n ih =>
    obtain ⟨l, h1, h2⟩ := ih (fun i hi => h i (by omega))
    obtain ⟨x, hx⟩ := h n (by omega)
    refine ⟨l ++ [x], by simp [h1], fun i hi => ?_⟩
    by_cases hl : i < l.length
    · rw [List.getElem_append_left hl]; exact h2 i hl
    · have : i = l.length := by simp at hi; omega
      subst this
      simp only [List.getElem_concat_length]
      rw [h1]; exact hx

theorem tok_cells {fuel : Nat} {cs : List Value} {x : DataW H × List MemPlace} (h : DataW.trod enc Try.prog W b2 spare held fuel 108 cs = some x) : ∃ t : Ex.Tok, cs = [.int .u8 (t.op : Int), .int .i64 t.n] ∧ Ex.okT t := by
  obtain ⟨hl, n, hg⟩ := struct_parts Try.underlying108 h
  obtain ⟨y0, h0⟩ := hg 0 5 0 1 rfl (by kernel_rfl)
  obtain ⟨y1, h1⟩ := hg 1 2 1 1 rfl (by kernel_rfl)
  rw [show Try.prog.cellsOf 108 = 2 from by kernel_rfl] at hl
  match cs, hl with
  | [c0, c1], _ =>
    obtain ⟨n0, e0, w0⟩ := int_cells Try.underlying5 h0
    obtain ⟨n1, e1, w1⟩ := int_cells Try.underlying2 h1
    simp at e0 e1
    subst e0 e1
    have b0 := bounds_u8 w0
    have b1 := bounds_i64 w1
    refine ⟨⟨n0.toNat, n1⟩, ?_, ?_⟩
    · simp only
      rw [show ((n0.toNat : Nat) : Int) = n0 from by omega]
    · unfold Ex.okT Ex.least Ex.most
      simp only
      omega

theorem toks_cells {fuel : Nat} {cs : List Value} {x : DataW H × List MemPlace} (h : DataW.trod enc Try.prog W b2 spare held fuel 38 cs = some x) :
    ∃ a cap l, cs = [.slice a l.length cap] ∧ l.length ≤ cap ∧ cap ≤ maxLen ∧ Ex.Toks W a l.length l := by
  obtain ⟨a, len, cap, rfl, h1, h2, h3, h4⟩ := slice_elems 2 (by omega) (by kernel_rfl) Try.underlying38 h
  rcases h3 with rfl | ⟨b, o, rfl⟩
  · exact ⟨a, cap, [], rfl, h1, h2, Ex.Toks.nil _ _⟩
  · obtain ⟨l, hl, hp⟩ := choose_list len (fun i (t : Ex.Tok) => W.cell? ⟨b, o + i * 2, none⟩ = some (.int .u8 (t.op : Int)) ∧ W.cell? ⟨b, o + i * 2 + 1, none⟩ = some (.int .i64 t.n) ∧ Ex.okT t) (fun i hi => by
      obtain ⟨cs', n, y, hcl, hcc, ht⟩ := h4 b o rfl i hi
      obtain ⟨t, rfl, hok⟩ := tok_cells ht
      exact ⟨t, hcc 0 (by simp), hcc 1 (by simp), hok⟩)
    subst hl
    refine ⟨_, cap, l, rfl, h1, h2, rfl, by omega, ?_, .inr ⟨b, o, rfl, fun i hi => ⟨(hp i hi).1, (hp i hi).2.1⟩⟩⟩
    intro t ht
    obtain ⟨i, hi, rfl⟩ := List.getElem_of_mem ht
    exact (hp i hi).2.2

theorem ints_cells {fuel : Nat} {cs : List Value} {x : DataW H × List MemPlace} (h : DataW.trod enc Try.prog W b2 spare held fuel 25 cs = some x) :
    ∃ a cap l, cs = [.slice a l.length cap] ∧ l.length ≤ cap ∧ cap ≤ maxLen ∧ Ex.Ints W a l.length l := by
  obtain ⟨a, len, cap, rfl, h1, h2, h3, h4⟩ := slice_elems 1 (by omega) (by kernel_rfl) Try.underlying25 h
  rcases h3 with rfl | ⟨b, o, rfl⟩
  · exact ⟨a, cap, [], rfl, h1, h2, Ex.Ints.nil _ _⟩
  · obtain ⟨l, hl, hp⟩ := choose_list len (fun i (t : Int) => W.cell? ⟨b, o + i, none⟩ = some (.int .i64 t) ∧ Ex.least ≤ t ∧ t ≤ Ex.most) (fun i hi => by
      obtain ⟨cs', n, y, hcl, hcc, ht⟩ := h4 b o rfl i hi
      obtain ⟨t, rfl, hok⟩ := int_cells Try.underlying2 ht
      have hb := bounds_i64 hok
      have h0 := hcc 0 (by simp)
      simp at h0
      exact ⟨t, h0, by unfold Ex.least; omega, by unfold Ex.most; omega⟩)
    subst hl
    refine ⟨_, cap, l, rfl, h1, h2, rfl, by omega, ?_, .inr ⟨b, o, rfl, fun i hi => (hp i hi).1⟩⟩
    intro t ht
    obtain ⟨i, hi, rfl⟩ := List.getElem_of_mem ht
    exact (hp i hi).2

set_option maxRecDepth 100000 in
theorem toks_arg {v : Value} {d : DataW H} {ps : List MemPlace} {base : Nat} (hval : Value.okWide Try.prog W .any base 38 v) (h : DataW.Trod enc Try.prog W b2 spare held 38 v d ps) :
    ∃ a cap l, v = .slice a l.length cap ∧ l.length ≤ cap ∧ cap ≤ maxLen ∧ Ex.Toks W a l.length l := by
  obtain ⟨a, len, cap, rfl⟩ := okWide_slice Try.underlying38 hval
  obtain ⟨fuel, hf⟩ := h
  obtain ⟨a', cap', l, e, h1, h2, h3⟩ := toks_cells hf
  simp [Value.cells] at e
  obtain ⟨rfl, rfl, rfl⟩ := e
  exact ⟨_, _, l, rfl, h1, h2, h3⟩
set_option maxRecDepth 100000 in
theorem ints_arg {v : Value} {d : DataW H} {ps : List MemPlace} {base : Nat} (hval : Value.okWide Try.prog W .any base 25 v) (h : DataW.Trod enc Try.prog W b2 spare held 25 v d ps) :
    ∃ a cap l, v = .slice a l.length cap ∧ l.length ≤ cap ∧ cap ≤ maxLen ∧ Ex.Ints W a l.length l := by
  obtain ⟨a, len, cap, rfl⟩ := okWide_slice Try.underlying25 hval
  obtain ⟨fuel, hf⟩ := h
  obtain ⟨a', cap', l, e, h1, h2, h3⟩ := ints_cells hf
  simp [Value.cells] at e
  obtain ⟨rfl, rfl, rfl⟩ := e
  exact ⟨_, _, l, rfl, h1, h2, h3⟩
end
end Go.Proofs.Ytdpmfjbhadapiaa
