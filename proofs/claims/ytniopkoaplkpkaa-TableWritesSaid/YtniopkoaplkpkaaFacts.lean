/- Plain facts that all texts share: chains of truths, the first that answers, sums that stay small. No condition. Plain law of configurations and moves: sets as bits, rising lists, steps. Over no program. No condition. -/
import Derived.Test.YtniopkoaplkpkaaBase
import Derived.Lib.TrailingZeros
namespace Go.Proofs.Ytniopkoaplkpkaa
open Go.RowKit
set_option linter.unusedVariables false
namespace Rg
theorem any_take {α : Type} (p : α → Bool) (l : List α) (k : Nat) (hk : k < l.length) (h : (l.take k).any p = false) : (l.take (k + 1)).any p = p l[k] := by
  rw [List.take_succ_eq_append_getElem hk, List.any_append, h]; simp
theorem any_hit {α : Type} (p : α → Bool) (l : List α) (k : Nat) (hk : k < l.length) (h : p l[k] = true) : l.any p = true :=
  List.any_eq_true.2 ⟨l[k], List.getElem_mem _, h⟩
def idxS {α : Type} (p : α → Bool) (l : List α) : Int := match l.findIdx? p with | none => -1 | some i => (i : Int)
theorem idx_none {α : Type} {p : α → Bool} {l : List α} (h : l.any p = false) : idxS p l = -1 := by
  unfold idxS
  rw [List.findIdx?_eq_none_iff.2 (fun x hx => by
    cases hp : p x
    · rfl
    · rw [List.any_eq_true.2 ⟨x, hx, hp⟩] at h; cases h)]
theorem idx_some {α : Type} {p : α → Bool} {l : List α} {k : Nat} (hk : k < l.length) (h0 : (l.take k).any p = false) (h : p l[k] = true) : idxS p l = (k : Int) := by
  unfold idxS
  have : l.findIdx? p = some k := by
    rw [List.findIdx?_eq_some_iff_getElem]
    refine ⟨hk, h, fun j hj => ?_⟩
    cases hp : p l[j]
    · simp
    · have : (l.take k).any p = true := List.any_eq_true.2 ⟨l[j], by rw [List.mem_take_iff_getElem]; exact ⟨j, by omega, rfl⟩, hp⟩
      rw [h0] at this; cases this
  rw [this]
theorem idx_any {α : Type} (p : α → Bool) (l : List α) : decide (0 ≤ idxS p l) = l.any p := by
  unfold idxS
  cases h : l.findIdx? p with
  | none =>
    simp only
    have : l.any p = false := by
      rw [List.findIdx?_eq_none_iff] at h
      rw [List.any_eq_false]
      intro x hx; simp [h x hx]
    rw [this]; rfl
  | some i =>
    simp only
    rw [decide_eq_true (by omega)]
    rw [List.findIdx?_eq_some_iff_getElem] at h
    obtain ⟨hi, hp, _⟩ := h
    exact (any_hit p l i hi hp).symm
theorem i64_wrap {a : Int} (h1 : -9223372036854775808 ≤ a) (h2 : a ≤ 9223372036854775807) : IntKind.i64.wrap a = a := by
  unfold IntKind.wrap
  simp [IntKind.bits, IntKind.signed]
  omega
theorem eqF {a b : Int} (h : a ≠ b) : (a == b) = false := by rw [beq_eq_false_iff_ne]; exact h
theorem eqT {a b : Int} (h : a = b) : (a == b) = true := by rw [beq_iff_eq]; exact h
theorem i64_up {k n : Nat} (h : k < n) (hn : n ≤ maxLen) : IntKind.i64.wrap ((k : Int) + 1) = ((k + 1 : Nat) : Int) := by unfold maxLen at hn; rw [i64_wrap (by omega) (by omega)]; omega
theorem any_up {α : Type} {p : α → Bool} {l : List α} {k : Nat} (hk : k < l.length) (h : (l.take k).any p = false) (h' : p l[k] = false) : (l.take (k + 1)).any p = false := by rw [any_take p l k hk h]; exact h'
theorem not_t {b : Bool} (h : (!b) = true) : b = false := by cases b <;> simp_all
theorem not_f {b : Bool} (h : (!b) = false) : b = true := by cases b <;> simp_all
theorem and2 (b1 b2 : Bool) : (b1 = false) ∨ (b1 = true ∧ b2 = false) ∨ (b1 = true ∧ b2 = true) := by
  cases b1
  · exact Or.inl rfl
  cases b2
  · exact Or.inr (Or.inl ⟨rfl, rfl⟩)
  exact Or.inr (Or.inr (⟨rfl, rfl⟩))
theorem or2 (b1 b2 : Bool) : (b1 = true) ∨ (b1 = false ∧ b2 = true) ∨ (b1 = false ∧ b2 = false) := by
  cases b1
  rotate_left
  · exact Or.inl rfl
  cases b2
  rotate_left
  · exact Or.inr (Or.inl ⟨rfl, rfl⟩)
  exact Or.inr (Or.inr (⟨rfl, rfl⟩))
theorem and3 (b1 b2 b3 : Bool) : (b1 = false) ∨ (b1 = true ∧ b2 = false) ∨ (b1 = true ∧ b2 = true ∧ b3 = false) ∨ (b1 = true ∧ b2 = true ∧ b3 = true) := by
  cases b1
  · exact Or.inl rfl
  cases b2
  · exact Or.inr (Or.inl ⟨rfl, rfl⟩)
  cases b3
  · exact Or.inr (Or.inr (Or.inl ⟨rfl, rfl, rfl⟩))
  exact Or.inr (Or.inr (Or.inr (⟨rfl, rfl, rfl⟩)))
theorem or3 (b1 b2 b3 : Bool) : (b1 = true) ∨ (b1 = false ∧ b2 = true) ∨ (b1 = false ∧ b2 = false ∧ b3 = true) ∨ (b1 = false ∧ b2 = false ∧ b3 = false) := by
  cases b1
  rotate_left
  · exact Or.inl rfl
  cases b2
  rotate_left
  · exact Or.inr (Or.inl ⟨rfl, rfl⟩)
  cases b3
  rotate_left
  · exact Or.inr (Or.inr (Or.inl ⟨rfl, rfl, rfl⟩))
  exact Or.inr (Or.inr (Or.inr (⟨rfl, rfl, rfl⟩)))
theorem and4 (b1 b2 b3 b4 : Bool) : (b1 = false) ∨ (b1 = true ∧ b2 = false) ∨ (b1 = true ∧ b2 = true ∧ b3 = false) ∨ (b1 = true ∧ b2 = true ∧ b3 = true ∧ b4 = false) ∨ (b1 = true ∧ b2 = true ∧ b3 = true ∧ b4 = true) := by
  cases b1
  · exact Or.inl rfl
  cases b2
  · exact Or.inr (Or.inl ⟨rfl, rfl⟩)
  cases b3
  · exact Or.inr (Or.inr (Or.inl ⟨rfl, rfl, rfl⟩))
  cases b4
  · exact Or.inr (Or.inr (Or.inr (Or.inl ⟨rfl, rfl, rfl, rfl⟩)))
  exact Or.inr (Or.inr (Or.inr (Or.inr (⟨rfl, rfl, rfl, rfl⟩))))
theorem or4 (b1 b2 b3 b4 : Bool) : (b1 = true) ∨ (b1 = false ∧ b2 = true) ∨ (b1 = false ∧ b2 = false ∧ b3 = true) ∨ (b1 = false ∧ b2 = false ∧ b3 = false ∧ b4 = true) ∨ (b1 = false ∧ b2 = false ∧ b3 = false ∧ b4 = false) := by
  cases b1
  rotate_left
  · exact Or.inl rfl
  cases b2
  rotate_left
  · exact Or.inr (Or.inl ⟨rfl, rfl⟩)
  cases b3
  rotate_left
  · exact Or.inr (Or.inr (Or.inl ⟨rfl, rfl, rfl⟩))
  cases b4
  rotate_left
  · exact Or.inr (Or.inr (Or.inr (Or.inl ⟨rfl, rfl, rfl, rfl⟩)))
  exact Or.inr (Or.inr (Or.inr (Or.inr (⟨rfl, rfl, rfl, rfl⟩))))
theorem and5 (b1 b2 b3 b4 b5 : Bool) : (b1 = false) ∨ (b1 = true ∧ b2 = false) ∨ (b1 = true ∧ b2 = true ∧ b3 = false) ∨ (b1 = true ∧ b2 = true ∧ b3 = true ∧ b4 = false) ∨ (b1 = true ∧ b2 = true ∧ b3 = true ∧ b4 = true ∧ b5 = false) ∨ (b1 = true ∧ b2 = true ∧ b3 = true ∧ b4 = true ∧ b5 = true) := by
  cases b1
  · exact Or.inl rfl
  cases b2
  · exact Or.inr (Or.inl ⟨rfl, rfl⟩)
  cases b3
  · exact Or.inr (Or.inr (Or.inl ⟨rfl, rfl, rfl⟩))
  cases b4
  · exact Or.inr (Or.inr (Or.inr (Or.inl ⟨rfl, rfl, rfl, rfl⟩)))
  cases b5
  · exact Or.inr (Or.inr (Or.inr (Or.inr (Or.inl ⟨rfl, rfl, rfl, rfl, rfl⟩))))
  exact Or.inr (Or.inr (Or.inr (Or.inr (Or.inr (⟨rfl, rfl, rfl, rfl, rfl⟩)))))
theorem or5 (b1 b2 b3 b4 b5 : Bool) : (b1 = true) ∨ (b1 = false ∧ b2 = true) ∨ (b1 = false ∧ b2 = false ∧ b3 = true) ∨ (b1 = false ∧ b2 = false ∧ b3 = false ∧ b4 = true) ∨ (b1 = false ∧ b2 = false ∧ b3 = false ∧ b4 = false ∧ b5 = true) ∨ (b1 = false ∧ b2 = false ∧ b3 = false ∧ b4 = false ∧ b5 = false) := by
  cases b1
  rotate_left
  · exact Or.inl rfl
  cases b2
  rotate_left
  · exact Or.inr (Or.inl ⟨rfl, rfl⟩)
  cases b3
  rotate_left
  · exact Or.inr (Or.inr (Or.inl ⟨rfl, rfl, rfl⟩))
  cases b4
  rotate_left
  · exact Or.inr (Or.inr (Or.inr (Or.inl ⟨rfl, rfl, rfl, rfl⟩)))
  cases b5
  rotate_left
  · exact Or.inr (Or.inr (Or.inr (Or.inr (Or.inl ⟨rfl, rfl, rfl, rfl, rfl⟩))))
  exact Or.inr (Or.inr (Or.inr (Or.inr (Or.inr (⟨rfl, rfl, rfl, rfl, rfl⟩)))))
theorem and6 (b1 b2 b3 b4 b5 b6 : Bool) : (b1 = false) ∨ (b1 = true ∧ b2 = false) ∨ (b1 = true ∧ b2 = true ∧ b3 = false) ∨ (b1 = true ∧ b2 = true ∧ b3 = true ∧ b4 = false) ∨ (b1 = true ∧ b2 = true ∧ b3 = true ∧ b4 = true ∧ b5 = false) ∨ (b1 = true ∧ b2 = true ∧ b3 = true ∧ b4 = true ∧ b5 = true ∧ b6 = false) ∨ (b1 = true ∧ b2 = true ∧ b3 = true ∧ b4 = true ∧ b5 = true ∧ b6 = true) := by
  cases b1
  · exact Or.inl rfl
  cases b2
  · exact Or.inr (Or.inl ⟨rfl, rfl⟩)
  cases b3
  · exact Or.inr (Or.inr (Or.inl ⟨rfl, rfl, rfl⟩))
  cases b4
  · exact Or.inr (Or.inr (Or.inr (Or.inl ⟨rfl, rfl, rfl, rfl⟩)))
  cases b5
  · exact Or.inr (Or.inr (Or.inr (Or.inr (Or.inl ⟨rfl, rfl, rfl, rfl, rfl⟩))))
  cases b6
  · exact Or.inr (Or.inr (Or.inr (Or.inr (Or.inr (Or.inl ⟨rfl, rfl, rfl, rfl, rfl, rfl⟩)))))
  exact Or.inr (Or.inr (Or.inr (Or.inr (Or.inr (Or.inr (⟨rfl, rfl, rfl, rfl, rfl, rfl⟩))))))
theorem or6 (b1 b2 b3 b4 b5 b6 : Bool) : (b1 = true) ∨ (b1 = false ∧ b2 = true) ∨ (b1 = false ∧ b2 = false ∧ b3 = true) ∨ (b1 = false ∧ b2 = false ∧ b3 = false ∧ b4 = true) ∨ (b1 = false ∧ b2 = false ∧ b3 = false ∧ b4 = false ∧ b5 = true) ∨ (b1 = false ∧ b2 = false ∧ b3 = false ∧ b4 = false ∧ b5 = false ∧ b6 = true) ∨ (b1 = false ∧ b2 = false ∧ b3 = false ∧ b4 = false ∧ b5 = false ∧ b6 = false) := by
  cases b1
  rotate_left
  · exact Or.inl rfl
  cases b2
  rotate_left
  · exact Or.inr (Or.inl ⟨rfl, rfl⟩)
  cases b3
  rotate_left
  · exact Or.inr (Or.inr (Or.inl ⟨rfl, rfl, rfl⟩))
  cases b4
  rotate_left
  · exact Or.inr (Or.inr (Or.inr (Or.inl ⟨rfl, rfl, rfl, rfl⟩)))
  cases b5
  rotate_left
  · exact Or.inr (Or.inr (Or.inr (Or.inr (Or.inl ⟨rfl, rfl, rfl, rfl, rfl⟩))))
  cases b6
  rotate_left
  · exact Or.inr (Or.inr (Or.inr (Or.inr (Or.inr (Or.inl ⟨rfl, rfl, rfl, rfl, rfl, rfl⟩)))))
  exact Or.inr (Or.inr (Or.inr (Or.inr (Or.inr (Or.inr (⟨rfl, rfl, rfl, rfl, rfl, rfl⟩))))))
theorem and7 (b1 b2 b3 b4 b5 b6 b7 : Bool) : (b1 = false) ∨ (b1 = true ∧ b2 = false) ∨ (b1 = true ∧ b2 = true ∧ b3 = false) ∨ (b1 = true ∧ b2 = true ∧ b3 = true ∧ b4 = false) ∨ (b1 = true ∧ b2 = true ∧ b3 = true ∧ b4 = true ∧ b5 = false) ∨ (b1 = true ∧ b2 = true ∧ b3 = true ∧ b4 = true ∧ b5 = true ∧ b6 = false) ∨ (b1 = true ∧ b2 = true ∧ b3 = true ∧ b4 = true ∧ b5 = true ∧ b6 = true ∧ b7 = false) ∨ (b1 = true ∧ b2 = true ∧ b3 = true ∧ b4 = true ∧ b5 = true ∧ b6 = true ∧ b7 = true) := by
  cases b1
  · exact Or.inl rfl
  cases b2
  · exact Or.inr (Or.inl ⟨rfl, rfl⟩)
  cases b3
  · exact Or.inr (Or.inr (Or.inl ⟨rfl, rfl, rfl⟩))
  cases b4
  · exact Or.inr (Or.inr (Or.inr (Or.inl ⟨rfl, rfl, rfl, rfl⟩)))
  cases b5
  · exact Or.inr (Or.inr (Or.inr (Or.inr (Or.inl ⟨rfl, rfl, rfl, rfl, rfl⟩))))
  cases b6
  · exact Or.inr (Or.inr (Or.inr (Or.inr (Or.inr (Or.inl ⟨rfl, rfl, rfl, rfl, rfl, rfl⟩)))))
  cases b7
  · exact Or.inr (Or.inr (Or.inr (Or.inr (Or.inr (Or.inr (Or.inl ⟨rfl, rfl, rfl, rfl, rfl, rfl, rfl⟩))))))
  exact Or.inr (Or.inr (Or.inr (Or.inr (Or.inr (Or.inr (Or.inr (⟨rfl, rfl, rfl, rfl, rfl, rfl, rfl⟩)))))))
theorem or7 (b1 b2 b3 b4 b5 b6 b7 : Bool) : (b1 = true) ∨ (b1 = false ∧ b2 = true) ∨ (b1 = false ∧ b2 = false ∧ b3 = true) ∨ (b1 = false ∧ b2 = false ∧ b3 = false ∧ b4 = true) ∨ (b1 = false ∧ b2 = false ∧ b3 = false ∧ b4 = false ∧ b5 = true) ∨ (b1 = false ∧ b2 = false ∧ b3 = false ∧ b4 = false ∧ b5 = false ∧ b6 = true) ∨ (b1 = false ∧ b2 = false ∧ b3 = false ∧ b4 = false ∧ b5 = false ∧ b6 = false ∧ b7 = true) ∨ (b1 = false ∧ b2 = false ∧ b3 = false ∧ b4 = false ∧ b5 = false ∧ b6 = false ∧ b7 = false) := by
  cases b1
  rotate_left
  · exact Or.inl rfl
  cases b2
  rotate_left
  · exact Or.inr (Or.inl ⟨rfl, rfl⟩)
  cases b3
  rotate_left
  · exact Or.inr (Or.inr (Or.inl ⟨rfl, rfl, rfl⟩))
  cases b4
  rotate_left
  · exact Or.inr (Or.inr (Or.inr (Or.inl ⟨rfl, rfl, rfl, rfl⟩)))
  cases b5
  rotate_left
  · exact Or.inr (Or.inr (Or.inr (Or.inr (Or.inl ⟨rfl, rfl, rfl, rfl, rfl⟩))))
  cases b6
  rotate_left
  · exact Or.inr (Or.inr (Or.inr (Or.inr (Or.inr (Or.inl ⟨rfl, rfl, rfl, rfl, rfl, rfl⟩)))))
  cases b7
  rotate_left
  · exact Or.inr (Or.inr (Or.inr (Or.inr (Or.inr (Or.inr (Or.inl ⟨rfl, rfl, rfl, rfl, rfl, rfl, rfl⟩))))))
  exact Or.inr (Or.inr (Or.inr (Or.inr (Or.inr (Or.inr (Or.inr (⟨rfl, rfl, rfl, rfl, rfl, rfl, rfl⟩)))))))
theorem and8 (b1 b2 b3 b4 b5 b6 b7 b8 : Bool) : (b1 = false) ∨ (b1 = true ∧ b2 = false) ∨ (b1 = true ∧ b2 = true ∧ b3 = false) ∨ (b1 = true ∧ b2 = true ∧ b3 = true ∧ b4 = false) ∨ (b1 = true ∧ b2 = true ∧ b3 = true ∧ b4 = true ∧ b5 = false) ∨ (b1 = true ∧ b2 = true ∧ b3 = true ∧ b4 = true ∧ b5 = true ∧ b6 = false) ∨ (b1 = true ∧ b2 = true ∧ b3 = true ∧ b4 = true ∧ b5 = true ∧ b6 = true ∧ b7 = false) ∨ (b1 = true ∧ b2 = true ∧ b3 = true ∧ b4 = true ∧ b5 = true ∧ b6 = true ∧ b7 = true ∧ b8 = false) ∨ (b1 = true ∧ b2 = true ∧ b3 = true ∧ b4 = true ∧ b5 = true ∧ b6 = true ∧ b7 = true ∧ b8 = true) := by
  cases b1
  · exact Or.inl rfl
  cases b2
  · exact Or.inr (Or.inl ⟨rfl, rfl⟩)
  cases b3
  · exact Or.inr (Or.inr (Or.inl ⟨rfl, rfl, rfl⟩))
  cases b4
  · exact Or.inr (Or.inr (Or.inr (Or.inl ⟨rfl, rfl, rfl, rfl⟩)))
  cases b5
  · exact Or.inr (Or.inr (Or.inr (Or.inr (Or.inl ⟨rfl, rfl, rfl, rfl, rfl⟩))))
  cases b6
  · exact Or.inr (Or.inr (Or.inr (Or.inr (Or.inr (Or.inl ⟨rfl, rfl, rfl, rfl, rfl, rfl⟩)))))
  cases b7
  · exact Or.inr (Or.inr (Or.inr (Or.inr (Or.inr (Or.inr (Or.inl ⟨rfl, rfl, rfl, rfl, rfl, rfl, rfl⟩))))))
  cases b8
  · exact Or.inr (Or.inr (Or.inr (Or.inr (Or.inr (Or.inr (Or.inr (Or.inl ⟨rfl, rfl, rfl, rfl, rfl, rfl, rfl, rfl⟩)))))))
  exact Or.inr (Or.inr (Or.inr (Or.inr (Or.inr (Or.inr (Or.inr (Or.inr (⟨rfl, rfl, rfl, rfl, rfl, rfl, rfl, rfl⟩))))))))
theorem or8 (b1 b2 b3 b4 b5 b6 b7 b8 : Bool) : (b1 = true) ∨ (b1 = false ∧ b2 = true) ∨ (b1 = false ∧ b2 = false ∧ b3 = true) ∨ (b1 = false ∧ b2 = false ∧ b3 = false ∧ b4 = true) ∨ (b1 = false ∧ b2 = false ∧ b3 = false ∧ b4 = false ∧ b5 = true) ∨ (b1 = false ∧ b2 = false ∧ b3 = false ∧ b4 = false ∧ b5 = false ∧ b6 = true) ∨ (b1 = false ∧ b2 = false ∧ b3 = false ∧ b4 = false ∧ b5 = false ∧ b6 = false ∧ b7 = true) ∨ (b1 = false ∧ b2 = false ∧ b3 = false ∧ b4 = false ∧ b5 = false ∧ b6 = false ∧ b7 = false ∧ b8 = true) ∨ (b1 = false ∧ b2 = false ∧ b3 = false ∧ b4 = false ∧ b5 = false ∧ b6 = false ∧ b7 = false ∧ b8 = false) := by
  cases b1
  rotate_left
  · exact Or.inl rfl
  cases b2
  rotate_left
  · exact Or.inr (Or.inl ⟨rfl, rfl⟩)
  cases b3
  rotate_left
  · exact Or.inr (Or.inr (Or.inl ⟨rfl, rfl, rfl⟩))
  cases b4
  rotate_left
  · exact Or.inr (Or.inr (Or.inr (Or.inl ⟨rfl, rfl, rfl, rfl⟩)))
  cases b5
  rotate_left
  · exact Or.inr (Or.inr (Or.inr (Or.inr (Or.inl ⟨rfl, rfl, rfl, rfl, rfl⟩))))
  cases b6
  rotate_left
  · exact Or.inr (Or.inr (Or.inr (Or.inr (Or.inr (Or.inl ⟨rfl, rfl, rfl, rfl, rfl, rfl⟩)))))
  cases b7
  rotate_left
  · exact Or.inr (Or.inr (Or.inr (Or.inr (Or.inr (Or.inr (Or.inl ⟨rfl, rfl, rfl, rfl, rfl, rfl, rfl⟩))))))
  cases b8
  rotate_left
  · exact Or.inr (Or.inr (Or.inr (Or.inr (Or.inr (Or.inr (Or.inr (Or.inl ⟨rfl, rfl, rfl, rfl, rfl, rfl, rfl, rfl⟩)))))))
  exact Or.inr (Or.inr (Or.inr (Or.inr (Or.inr (Or.inr (Or.inr (Or.inr (⟨rfl, rfl, rfl, rfl, rfl, rfl, rfl, rfl⟩))))))))
theorem and9 (b1 b2 b3 b4 b5 b6 b7 b8 b9 : Bool) : (b1 = false) ∨ (b1 = true ∧ b2 = false) ∨ (b1 = true ∧ b2 = true ∧ b3 = false) ∨ (b1 = true ∧ b2 = true ∧ b3 = true ∧ b4 = false) ∨ (b1 = true ∧ b2 = true ∧ b3 = true ∧ b4 = true ∧ b5 = false) ∨ (b1 = true ∧ b2 = true ∧ b3 = true ∧ b4 = true ∧ b5 = true ∧ b6 = false) ∨ (b1 = true ∧ b2 = true ∧ b3 = true ∧ b4 = true ∧ b5 = true ∧ b6 = true ∧ b7 = false) ∨ (b1 = true ∧ b2 = true ∧ b3 = true ∧ b4 = true ∧ b5 = true ∧ b6 = true ∧ b7 = true ∧ b8 = false) ∨ (b1 = true ∧ b2 = true ∧ b3 = true ∧ b4 = true ∧ b5 = true ∧ b6 = true ∧ b7 = true ∧ b8 = true ∧ b9 = false) ∨ (b1 = true ∧ b2 = true ∧ b3 = true ∧ b4 = true ∧ b5 = true ∧ b6 = true ∧ b7 = true ∧ b8 = true ∧ b9 = true) := by
  cases b1
  · exact Or.inl rfl
  cases b2
  · exact Or.inr (Or.inl ⟨rfl, rfl⟩)
  cases b3
  · exact Or.inr (Or.inr (Or.inl ⟨rfl, rfl, rfl⟩))
  cases b4
  · exact Or.inr (Or.inr (Or.inr (Or.inl ⟨rfl, rfl, rfl, rfl⟩)))
  cases b5
  · exact Or.inr (Or.inr (Or.inr (Or.inr (Or.inl ⟨rfl, rfl, rfl, rfl, rfl⟩))))
  cases b6
  · exact Or.inr (Or.inr (Or.inr (Or.inr (Or.inr (Or.inl ⟨rfl, rfl, rfl, rfl, rfl, rfl⟩)))))
  cases b7
  · exact Or.inr (Or.inr (Or.inr (Or.inr (Or.inr (Or.inr (Or.inl ⟨rfl, rfl, rfl, rfl, rfl, rfl, rfl⟩))))))
  cases b8
  · exact Or.inr (Or.inr (Or.inr (Or.inr (Or.inr (Or.inr (Or.inr (Or.inl ⟨rfl, rfl, rfl, rfl, rfl, rfl, rfl, rfl⟩)))))))
  cases b9
  · exact Or.inr (Or.inr (Or.inr (Or.inr (Or.inr (Or.inr (Or.inr (Or.inr (Or.inl ⟨rfl, rfl, rfl, rfl, rfl, rfl, rfl, rfl, rfl⟩))))))))
  exact Or.inr (Or.inr (Or.inr (Or.inr (Or.inr (Or.inr (Or.inr (Or.inr (Or.inr (⟨rfl, rfl, rfl, rfl, rfl, rfl, rfl, rfl, rfl⟩)))))))))
theorem or9 (b1 b2 b3 b4 b5 b6 b7 b8 b9 : Bool) : (b1 = true) ∨ (b1 = false ∧ b2 = true) ∨ (b1 = false ∧ b2 = false ∧ b3 = true) ∨ (b1 = false ∧ b2 = false ∧ b3 = false ∧ b4 = true) ∨ (b1 = false ∧ b2 = false ∧ b3 = false ∧ b4 = false ∧ b5 = true) ∨ (b1 = false ∧ b2 = false ∧ b3 = false ∧ b4 = false ∧ b5 = false ∧ b6 = true) ∨ (b1 = false ∧ b2 = false ∧ b3 = false ∧ b4 = false ∧ b5 = false ∧ b6 = false ∧ b7 = true) ∨ (b1 = false ∧ b2 = false ∧ b3 = false ∧ b4 = false ∧ b5 = false ∧ b6 = false ∧ b7 = false ∧ b8 = true) ∨ (b1 = false ∧ b2 = false ∧ b3 = false ∧ b4 = false ∧ b5 = false ∧ b6 = false ∧ b7 = false ∧ b8 = false ∧ b9 = true) ∨ (b1 = false ∧ b2 = false ∧ b3 = false ∧ b4 = false ∧ b5 = false ∧ b6 = false ∧ b7 = false ∧ b8 = false ∧ b9 = false) := by
  cases b1
  rotate_left
  · exact Or.inl rfl
  cases b2
  rotate_left
  · exact Or.inr (Or.inl ⟨rfl, rfl⟩)
  cases b3
  rotate_left
  · exact Or.inr (Or.inr (Or.inl ⟨rfl, rfl, rfl⟩))
  cases b4
  rotate_left
  · exact Or.inr (Or.inr (Or.inr (Or.inl ⟨rfl, rfl, rfl, rfl⟩)))
  cases b5
  rotate_left
  · exact Or.inr (Or.inr (Or.inr (Or.inr (Or.inl ⟨rfl, rfl, rfl, rfl, rfl⟩))))
  cases b6
  rotate_left
  · exact Or.inr (Or.inr (Or.inr (Or.inr (Or.inr (Or.inl ⟨rfl, rfl, rfl, rfl, rfl, rfl⟩)))))
  cases b7
  rotate_left
  · exact Or.inr (Or.inr (Or.inr (Or.inr (Or.inr (Or.inr (Or.inl ⟨rfl, rfl, rfl, rfl, rfl, rfl, rfl⟩))))))
  cases b8
  rotate_left
  · exact Or.inr (Or.inr (Or.inr (Or.inr (Or.inr (Or.inr (Or.inr (Or.inl ⟨rfl, rfl, rfl, rfl, rfl, rfl, rfl, rfl⟩)))))))
  cases b9
  rotate_left
  · exact Or.inr (Or.inr (Or.inr (Or.inr (Or.inr (Or.inr (Or.inr (Or.inr (Or.inl ⟨rfl, rfl, rfl, rfl, rfl, rfl, rfl, rfl, rfl⟩))))))))
  exact Or.inr (Or.inr (Or.inr (Or.inr (Or.inr (Or.inr (Or.inr (Or.inr (Or.inr (⟨rfl, rfl, rfl, rfl, rfl, rfl, rfl, rfl, rfl⟩)))))))))
end Rg
end Go.Proofs.Ytniopkoaplkpkaa
namespace Go.Proofs.Ytniopkoaplkpkaa
set_option linter.unusedVariables false
set_option linter.unusedSimpArgs false
namespace Rc
/-! ### rising lists -/
theorem sorted_ext : ∀ {l l' : List Nat}, l.Pairwise (· < ·) → l'.Pairwise (· < ·) → (∀ x, x ∈ l ↔ x ∈ l') → l = l'
  | [], [], _, _, _ => rfl
  | [], b :: r, _, _, h => by have := (h b).2 (by simp); simp at this
  | a :: r, [], _, _, h => by have := (h a).1 (by simp); simp at this
  | a :: r, b :: r', h1, h2, h => by
    rw [List.pairwise_cons] at h1 h2
    have hab : a = b := by
      have k1 := (h a).1 (by simp)
      have k2 := (h b).2 (by simp)
      rcases List.mem_cons.1 k1 with k1 | k1
      · exact k1
      rcases List.mem_cons.1 k2 with k2 | k2
      · exact k2.symm
      have := h1.1 _ k2
      have := h2.1 _ k1
      omega
    subst hab
    congr 1
    refine sorted_ext h1.2 h2.2 fun x => ⟨fun hx => ?_, fun hx => ?_⟩
    · rcases List.mem_cons.1 ((h x).1 (List.mem_cons_of_mem _ hx)) with e | e
      · have := h1.1 _ hx; omega
      · exact e
    · rcases List.mem_cons.1 ((h x).2 (List.mem_cons_of_mem _ hx)) with e | e
      · have := h2.1 _ hx; omega
      · exact e
theorem range_sorted (n : Nat) : (List.range n).Pairwise (· < ·) := List.pairwise_lt_range
def okAt (l : List Nat) (i : Nat) : Bool := decide (l.getD i 0 < 64) && (decide (i = 0) || decide (l.getD (i - 1) 0 < l.getD i 0))
def rise (l : List Nat) : Bool := (List.range l.length).all (okAt l)
theorem rise_iff (l : List Nat) : rise l = true ↔ (∀ x ∈ l, x < 64) ∧ l.Pairwise (· < ·) := by
  unfold rise okAt
  rw [List.all_eq_true]
  simp only [List.mem_range, Bool.and_eq_true, Bool.or_eq_true, decide_eq_true_eq]
  constructor
  · intro h
    have hi : ∀ i (hi : i < l.length), l[i] < 64 ∧ (i = 0 ∨ ∃ h0 : i - 1 < l.length, l[i - 1] < l[i]) := fun i hi => by
      have := h i hi
      simp only [List.getD_eq_getElem?_getD, List.getElem?_eq_getElem hi, Option.getD_some] at this
      refine ⟨this.1, ?_⟩
      rcases this.2 with e | e
      · exact .inl e
      · rw [List.getElem?_eq_getElem (show i - 1 < l.length by omega)] at e
        exact .inr ⟨by omega, e⟩
    refine ⟨fun x hx => ?_, ?_⟩
    · obtain ⟨i, hl, rfl⟩ := List.mem_iff_getElem.1 hx
      exact (hi i hl).1
    · rw [List.pairwise_iff_getElem]
      have step : ∀ d i (h1 : i + d + 1 < l.length), l[i]'(by omega) < l[i + d + 1] := fun d => by
        induction d with
        | zero =>
          intro i h1
          rcases (hi (i + 1) h1).2 with e | ⟨h0, e⟩
          · omega
          · simpa using e
        | succ d ih =>
          intro i h1
          have k1 := ih i (by omega)
          rcases (hi (i + (d + 1) + 1) h1).2 with e | ⟨h0, e⟩
          · omega
          · have e2 : i + (d + 1) + 1 - 1 = i + d + 1 := by omega
            simp only [e2] at e
            omega
      intro i j h1 h2 hij
      have := step (j - i - 1) i (by omega)
      have e2 : i + (j - i - 1) + 1 = j := by omega
      simp only [e2] at this
      exact this
  · rintro ⟨h1, h2⟩ i hi
    rw [List.pairwise_iff_getElem] at h2
    simp only [List.getD_eq_getElem?_getD, List.getElem?_eq_getElem hi, Option.getD_some]
    refine ⟨h1 _ (List.getElem_mem hi), ?_⟩
    by_cases h0 : i = 0
    · exact .inl h0
    · right
      rw [List.getElem?_eq_getElem (show i - 1 < l.length by omega)]
      exact h2 _ _ _ _ (by omega)
theorem okAt_get {l : List Nat} {i : Nat} (hi : i < l.length) : okAt l i = (decide (l[i] < 64) && (decide (i = 0) || decide (l.getD (i - 1) 0 < l[i]))) := by
  unfold okAt
  simp [List.getD_eq_getElem?_getD, List.getElem?_eq_getElem hi]
theorem all_take {p : Nat → Bool} {n : Nat} (k : Nat) (hk : k < n) (h : (List.range n).all p = true) : p k = true := List.all_eq_true.1 h k (List.mem_range.2 hk)
theorem range_up {p : Nat → Bool} {k : Nat} (h : (List.range k).all p = true) (h' : p k = true) : (List.range (k + 1)).all p = true := by
  rw [List.range_succ, List.all_append, h]; simp [h']
theorem rise_not {l : List Nat} {k : Nat} (hk : k < l.length) (h : okAt l k = false) : rise l = false := by
  unfold rise
  cases hr : (List.range l.length).all (okAt l)
  · rfl
  · rw [all_take k hk hr] at h; cases h

/-! ### sets as bits -/
def pop (x : Nat) : Nat := (List.range 64).countP (fun i => x.testBit i)
def setN (l : List Nat) : Nat := l.foldl (fun s n => if n < 64 then s ||| 2 ^ n else s) 0
theorem setN_snoc (l : List Nat) (n : Nat) : setN (l ++ [n]) = if n < 64 then setN l ||| 2 ^ n else setN l := by
  unfold setN; rw [List.foldl_append]; rfl
theorem setN_fold (l : List Nat) : ∀ s, (l.foldl (fun s n => if n < 64 then s ||| 2 ^ n else s) s) = s ||| setN l := by
  unfold setN
  induction l with
  | nil => intro s; simp
  | cons a r ih =>
    intro s
    simp only [List.foldl_cons]
    rw [ih, ih (if a < 64 then 0 ||| 2 ^ a else 0)]
    split
    · rw [Nat.zero_or, Nat.or_assoc]
    · rw [Nat.zero_or]
theorem setN_bit (l : List Nat) (i : Nat) : (setN l).testBit i = (decide (i < 64) && decide (i ∈ l)) := by
  induction l with
  | nil => simp [setN]
  | cons a r ih =>
    have : setN (a :: r) = (if a < 64 then 2 ^ a else 0) ||| setN r := by
      unfold setN
      rw [List.foldl_cons, setN_fold]
      unfold setN
      split <;> simp
    rw [this, Nat.testBit_or, ih]
    by_cases h : a < 64
    · rw [if_pos h, Nat.testBit_two_pow]
      by_cases h2 : a = i
      · subst h2; simp [h]
      · have h3 : ¬ i = a := fun e => h2 e.symm
        simp [h2, h3]
    · rw [if_neg h]
      by_cases h2 : i = a
      · subst h2; simp [h]
      · simp [h2]
theorem setN_lt (l : List Nat) : setN l < 18446744073709551616 := by
  have : setN l < 2 ^ 64 := by
    apply Nat.lt_pow_two_of_testBit
    intro i hi
    rw [setN_bit]
    have : ¬ i < 64 := by omega
    simp [this]
  exact this
def others (l m : List Nat) : Nat := l.countP (fun n => !decide (n ∈ m))
theorem countP_xor (p q : Nat → Bool) (l : List Nat) : l.countP (fun i => p i != q i) = l.countP (fun i => p i && !q i) + l.countP (fun i => q i && !p i) := by
  induction l with
  | nil => rfl
  | cons a r ih =>
    simp only [List.countP_cons, ih]
    cases p a <;> cases q a <;> simp <;> omega
theorem others_range {a : List Nat} (b : List Nat) (h : rise a = true) : (List.range 64).countP (fun i => decide (i ∈ a) && !decide (i ∈ b)) = others a b := by
  obtain ⟨h1, h2⟩ := (rise_iff a).1 h
  unfold others
  rw [List.countP_eq_length_filter, List.countP_eq_length_filter]
  congr 1
  refine sorted_ext ((range_sorted 64).filter _) (h2.filter _) fun x => ?_
  simp only [List.mem_filter, List.mem_range, Bool.and_eq_true, Bool.not_eq_true', decide_eq_true_eq, decide_eq_false_iff_not]
  exact ⟨fun ⟨_, h3, h4⟩ => ⟨h3, h4⟩, fun ⟨h3, h4⟩ => ⟨h1 _ h3, h3, h4⟩⟩
theorem others_pop {a b : List Nat} (ha : rise a = true) (hb : rise b = true) : pop (setN a ^^^ setN b) = others a b + others b a := by
  rw [← others_range b ha, ← others_range a hb, ← countP_xor]
  unfold pop
  refine List.countP_congr fun x hx => ?_
  rw [List.mem_range] at hx
  rw [Nat.testBit_xor, setN_bit, setN_bit]
  simp [hx]

/-! ### places in a rising list -/
def posN (l : List Nat) (n : Nat) : Nat := (l.takeWhile (fun x => decide (x < n))).length
theorem posN_of {l : List Nat} {n i : Nat} (hi : i ≤ l.length) (h1 : ∀ k (hk : k < l.length), k < i → l[k] < n) (h2 : ∀ k (hk : k < l.length), i ≤ k → n ≤ l[k]) : posN l n = i := by
  induction l generalizing i with
  | nil => simp at hi; subst hi; rfl
  | cons a r ih =>
    unfold posN
    rw [List.takeWhile_cons]
    by_cases ha : a < n
    · rw [if_pos (by simp [ha])]
      have hi0 : i ≠ 0 := fun e => by
        subst e
        have := h2 0 (by simp) (Nat.le_refl _)
        simp at this; omega
      obtain ⟨j, rfl⟩ : ∃ j, i = j + 1 := ⟨i - 1, by omega⟩
      have := ih (i := j) (by simp at hi; omega) (fun k hk hkj => h1 (k + 1) (by simp; omega) (by omega)) (fun k hk hkj => h2 (k + 1) (by simp; omega) (by omega))
      unfold posN at this
      simp [this]
    · rw [if_neg (by simp [ha])]
      cases i with
      | zero => rfl
      | succ j =>
        have := h1 0 (by simp) (by omega)
        simp at this; omega
theorem posN_spec {l : List Nat} (n : Nat) (h : l.Pairwise (· < ·)) : posN l n ≤ l.length ∧ (∀ k (hk : k < l.length), k < posN l n → l[k] < n) ∧ ∀ k (hk : k < l.length), posN l n ≤ k → n ≤ l[k] := by
  induction l with
  | nil => simp [posN]
  | cons a r ih =>
    rw [List.pairwise_cons] at h
    obtain ⟨i1, i2, i3⟩ := ih h.2
    by_cases ha : a < n
    · have e : posN (a :: r) n = posN r n + 1 := by unfold posN; rw [List.takeWhile_cons, if_pos (by simp [ha])]; rfl
      rw [e]
      refine ⟨by simp; omega, fun k hk hlt => ?_, fun k hk hle => ?_⟩
      · cases k with
        | zero => simpa using ha
        | succ k => simpa using i2 k (by simpa using hk) (by omega)
      · cases k with
        | zero => omega
        | succ k => simpa using i3 k (by simpa using hk) (by omega)
    · have e : posN (a :: r) n = 0 := by unfold posN; rw [List.takeWhile_cons, if_neg (by simp [ha])]; rfl
      rw [e]
      refine ⟨Nat.zero_le _, fun k hk hlt => by omega, fun k hk _ => ?_⟩
      cases k with
      | zero => simp; omega
      | succ k =>
        have := h.1 (r[k]'(by simpa using hk)) (List.getElem_mem _)
        simp; omega
def togL (l : List Nat) (n : Nat) : List Nat := (List.range 64).filter (fun i => decide (i ∈ l) != decide (i = n))
theorem tog_sorted (l : List Nat) (n : Nat) : (togL l n).Pairwise (· < ·) := (range_sorted 64).filter _
theorem mem_tog (l : List Nat) (n x : Nat) : x ∈ togL l n ↔ x < 64 ∧ (decide (x ∈ l) != decide (x = n)) = true := by
  unfold togL; rw [List.mem_filter, List.mem_range]
theorem tog_rise (l : List Nat) (n : Nat) : rise (togL l n) = true := (rise_iff _).2 ⟨fun x hx => ((mem_tog l n x).1 hx).1, tog_sorted l n⟩
theorem tog_in {l : List Nat} {n : Nat} (h : rise l = true) (hn : posN l n < l.length) (hat : l[posN l n]'hn = n) : l.take (posN l n) ++ l.drop (posN l n + 1) = togL l n := by
  obtain ⟨h1, h2⟩ := (rise_iff l).1 h
  have hs := posN_spec n h2
  generalize posN l n = i at *
  have hsub : (l.take i ++ l.drop (i + 1)).Sublist l := by
    have : (l.take i ++ l.drop (i + 1)).Sublist (l.take i ++ l.drop i) := List.Sublist.append (List.Sublist.refl _) (by rw [← List.getElem_cons_drop (h := hn)]; exact List.sublist_cons_self _ _)
    rwa [List.take_append_drop] at this
  refine sorted_ext (h2.sublist hsub) (tog_sorted l n) fun x => ?_
  rw [mem_tog]
  have hmem : x ∈ l ↔ x ∈ l.take i ∨ x = n ∨ x ∈ l.drop (i + 1) := by
    have e : l = l.take i ++ n :: l.drop (i + 1) := by
      have k1 : l.drop i = n :: l.drop (i + 1) := by rw [← List.getElem_cons_drop (h := hn), hat]
      rw [← k1, List.take_append_drop]
    constructor
    · intro hx
      rw [e] at hx
      simpa using hx
    · intro hx
      rw [e]
      simpa using hx
  rw [List.mem_append]
  have k1 : n ∉ l.take i := fun hx => by
    obtain ⟨j, hj, e⟩ := List.mem_take_iff_getElem.1 hx
    have := hs.2.1 j (by omega) (by omega)
    omega
  have k2 : n ∉ l.drop (i + 1) := fun hx => by
    obtain ⟨j, hj, e⟩ := List.mem_drop_iff_getElem.1 hx
    rw [List.pairwise_iff_getElem] at h2
    have := h2 i (j + (i + 1)) hn (by omega) (by omega)
    simp only [Nat.add_comm j] at this
    omega
  constructor
  · intro hx
    have hxl : x ∈ l := hmem.2 (by rcases hx with hx | hx <;> simp [hx])
    have hxn : x ≠ n := fun e => by subst e; rcases hx with hx | hx; exact k1 hx; exact k2 hx
    refine ⟨h1 _ hxl, by simp [hxl, hxn]⟩
  · rintro ⟨hx, hb⟩
    by_cases hxn : x = n
    · subst hxn
      have hxl : x ∈ l := hmem.2 (.inr (.inl rfl))
      simp [hxl] at hb
    · simp [hxn] at hb
      rcases hmem.1 hb with k | k | k
      · exact .inl k
      · exact (hxn k).elim
      · exact .inr k
theorem tog_out {l : List Nat} {n : Nat} (h : rise l = true) (hn : n < 64) (hat : ∀ hlt : posN l n < l.length, l[posN l n] ≠ n) : l.take (posN l n) ++ n :: l.drop (posN l n) = togL l n := by
  obtain ⟨h1, h2⟩ := (rise_iff l).1 h
  have hs := posN_spec n h2
  generalize posN l n = i at *
  have hno : n ∉ l := fun hx => by
    obtain ⟨j, hj, e⟩ := List.mem_iff_getElem.1 hx
    by_cases hji : j < i
    · have := hs.2.1 j hj hji; omega
    · by_cases hij : j = i
      · subst hij; exact hat hj e
      · have hil : i < l.length := by omega
        have k1 := hs.2.2 i hil (Nat.le_refl _)
        rw [List.pairwise_iff_getElem] at h2
        have := h2 i j hil hj (by omega)
        have := hat hil
        omega
  refine sorted_ext ?_ (tog_sorted l n) fun x => ?_
  · rw [List.pairwise_append]
    refine ⟨h2.sublist (List.take_sublist _ _), ?_, fun a ha b hb => ?_⟩
    · rw [List.pairwise_cons]
      refine ⟨fun b hb => ?_, h2.sublist (List.drop_sublist _ _)⟩
      obtain ⟨j, hj, e⟩ := List.mem_drop_iff_getElem.1 hb
      have := hs.2.2 (j + i) (by omega) (by omega)
      have : b ≠ n := fun e2 => hno (by rw [← e2]; exact List.mem_of_mem_drop hb)
      simp only [Nat.add_comm j] at *
      omega
    · obtain ⟨j, hj, e⟩ := List.mem_take_iff_getElem.1 ha
      have k1 := hs.2.1 j (by omega) (by omega)
      rcases List.mem_cons.1 hb with rfl | hb
      · omega
      · obtain ⟨j2, hj2, e2⟩ := List.mem_drop_iff_getElem.1 hb
        have := hs.2.2 (j2 + i) (by omega) (by omega)
        simp only [Nat.add_comm j2] at *
        omega
  · rw [mem_tog, List.mem_append, List.mem_cons]
    have hmem : x ∈ l ↔ x ∈ l.take i ∨ x ∈ l.drop i := by rw [← List.mem_append, List.take_append_drop]
    by_cases hxn : x = n
    · subst hxn
      simp [hn, hno]
    · constructor
      · intro hx
        have hxl : x ∈ l := hmem.2 (by rcases hx with k | k | k; exact .inl k; exact (hxn k).elim; exact .inr k)
        exact ⟨h1 _ hxl, by simp [hxl, hxn]⟩
      · rintro ⟨hx, hb⟩
        simp [hxn] at hb
        rcases hmem.1 hb with k | k
        · exact .inl k
        · exact .inr (.inr k)
end Rc
end Go.Proofs.Ytniopkoaplkpkaa
