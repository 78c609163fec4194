/- slices.IndexFunc, ContainsFunc and reg.rises at a register's lists, with the closure's contract as a hypothesis. Conditions: the lists can be read. Printed by a program (genidx.py). -/
import Derived.Test.YtiaogfjmhpkcmaaRegP
namespace Go.Proofs.Ytiaogfjmhpkcmaa
open Go.RowKit
set_option linter.unusedVariables false
set_option linter.unusedSimpArgs false
namespace Rg
open Sy (RetV RetM Sub)
theorem and2 (b1 b2 : Bool) : (b1 = false) ∨ (b1 = true ∧ b2 = false) ∨ (b1 = true ∧ b2 = true) := by
  cases b1
  · exact Or.inl rfl
  cases b2
  · exact Or.inr (Or.inl ⟨rfl, rfl⟩)
  exact Or.inr (Or.inr (⟨rfl, rfl⟩))
theorem or2 (b1 b2 : Bool) : (b1 = true) ∨ (b1 = false ∧ b2 = true) ∨ (b1 = false ∧ b2 = false) := by
  cases b1
  rotate_left
  · exact Or.inl rfl
  cases b2
  rotate_left
  · exact Or.inr (Or.inl ⟨rfl, rfl⟩)
  exact Or.inr (Or.inr (⟨rfl, rfl⟩))
theorem and3 (b1 b2 b3 : Bool) : (b1 = false) ∨ (b1 = true ∧ b2 = false) ∨ (b1 = true ∧ b2 = true ∧ b3 = false) ∨ (b1 = true ∧ b2 = true ∧ b3 = true) := by
  cases b1
  · exact Or.inl rfl
  cases b2
  · exact Or.inr (Or.inl ⟨rfl, rfl⟩)
  cases b3
  · exact Or.inr (Or.inr (Or.inl ⟨rfl, rfl, rfl⟩))
  exact Or.inr (Or.inr (Or.inr (⟨rfl, rfl, rfl⟩)))
theorem or3 (b1 b2 b3 : Bool) : (b1 = true) ∨ (b1 = false ∧ b2 = true) ∨ (b1 = false ∧ b2 = false ∧ b3 = true) ∨ (b1 = false ∧ b2 = false ∧ b3 = false) := by
  cases b1
  rotate_left
  · exact Or.inl rfl
  cases b2
  rotate_left
  · exact Or.inr (Or.inl ⟨rfl, rfl⟩)
  cases b3
  rotate_left
  · exact Or.inr (Or.inr (Or.inl ⟨rfl, rfl, rfl⟩))
  exact Or.inr (Or.inr (Or.inr (⟨rfl, rfl, rfl⟩)))
theorem and4 (b1 b2 b3 b4 : Bool) : (b1 = false) ∨ (b1 = true ∧ b2 = false) ∨ (b1 = true ∧ b2 = true ∧ b3 = false) ∨ (b1 = true ∧ b2 = true ∧ b3 = true ∧ b4 = false) ∨ (b1 = true ∧ b2 = true ∧ b3 = true ∧ b4 = true) := by
  cases b1
  · exact Or.inl rfl
  cases b2
  · exact Or.inr (Or.inl ⟨rfl, rfl⟩)
  cases b3
  · exact Or.inr (Or.inr (Or.inl ⟨rfl, rfl, rfl⟩))
  cases b4
  · exact Or.inr (Or.inr (Or.inr (Or.inl ⟨rfl, rfl, rfl, rfl⟩)))
  exact Or.inr (Or.inr (Or.inr (Or.inr (⟨rfl, rfl, rfl, rfl⟩))))
theorem or4 (b1 b2 b3 b4 : Bool) : (b1 = true) ∨ (b1 = false ∧ b2 = true) ∨ (b1 = false ∧ b2 = false ∧ b3 = true) ∨ (b1 = false ∧ b2 = false ∧ b3 = false ∧ b4 = true) ∨ (b1 = false ∧ b2 = false ∧ b3 = false ∧ b4 = false) := by
  cases b1
  rotate_left
  · exact Or.inl rfl
  cases b2
  rotate_left
  · exact Or.inr (Or.inl ⟨rfl, rfl⟩)
  cases b3
  rotate_left
  · exact Or.inr (Or.inr (Or.inl ⟨rfl, rfl, rfl⟩))
  cases b4
  rotate_left
  · exact Or.inr (Or.inr (Or.inr (Or.inl ⟨rfl, rfl, rfl, rfl⟩)))
  exact Or.inr (Or.inr (Or.inr (Or.inr (⟨rfl, rfl, rfl, rfl⟩))))
theorem and5 (b1 b2 b3 b4 b5 : Bool) : (b1 = false) ∨ (b1 = true ∧ b2 = false) ∨ (b1 = true ∧ b2 = true ∧ b3 = false) ∨ (b1 = true ∧ b2 = true ∧ b3 = true ∧ b4 = false) ∨ (b1 = true ∧ b2 = true ∧ b3 = true ∧ b4 = true ∧ b5 = false) ∨ (b1 = true ∧ b2 = true ∧ b3 = true ∧ b4 = true ∧ b5 = true) := by
  cases b1
  · exact Or.inl rfl
  cases b2
  · exact Or.inr (Or.inl ⟨rfl, rfl⟩)
  cases b3
  · exact Or.inr (Or.inr (Or.inl ⟨rfl, rfl, rfl⟩))
  cases b4
  · exact Or.inr (Or.inr (Or.inr (Or.inl ⟨rfl, rfl, rfl, rfl⟩)))
  cases b5
  · exact Or.inr (Or.inr (Or.inr (Or.inr (Or.inl ⟨rfl, rfl, rfl, rfl, rfl⟩))))
  exact Or.inr (Or.inr (Or.inr (Or.inr (Or.inr (⟨rfl, rfl, rfl, rfl, rfl⟩)))))
theorem or5 (b1 b2 b3 b4 b5 : Bool) : (b1 = true) ∨ (b1 = false ∧ b2 = true) ∨ (b1 = false ∧ b2 = false ∧ b3 = true) ∨ (b1 = false ∧ b2 = false ∧ b3 = false ∧ b4 = true) ∨ (b1 = false ∧ b2 = false ∧ b3 = false ∧ b4 = false ∧ b5 = true) ∨ (b1 = false ∧ b2 = false ∧ b3 = false ∧ b4 = false ∧ b5 = false) := by
  cases b1
  rotate_left
  · exact Or.inl rfl
  cases b2
  rotate_left
  · exact Or.inr (Or.inl ⟨rfl, rfl⟩)
  cases b3
  rotate_left
  · exact Or.inr (Or.inr (Or.inl ⟨rfl, rfl, rfl⟩))
  cases b4
  rotate_left
  · exact Or.inr (Or.inr (Or.inr (Or.inl ⟨rfl, rfl, rfl, rfl⟩)))
  cases b5
  rotate_left
  · exact Or.inr (Or.inr (Or.inr (Or.inr (Or.inl ⟨rfl, rfl, rfl, rfl, rfl⟩))))
  exact Or.inr (Or.inr (Or.inr (Or.inr (Or.inr (⟨rfl, rfl, rfl, rfl, rfl⟩)))))
theorem and6 (b1 b2 b3 b4 b5 b6 : Bool) : (b1 = false) ∨ (b1 = true ∧ b2 = false) ∨ (b1 = true ∧ b2 = true ∧ b3 = false) ∨ (b1 = true ∧ b2 = true ∧ b3 = true ∧ b4 = false) ∨ (b1 = true ∧ b2 = true ∧ b3 = true ∧ b4 = true ∧ b5 = false) ∨ (b1 = true ∧ b2 = true ∧ b3 = true ∧ b4 = true ∧ b5 = true ∧ b6 = false) ∨ (b1 = true ∧ b2 = true ∧ b3 = true ∧ b4 = true ∧ b5 = true ∧ b6 = true) := by
  cases b1
  · exact Or.inl rfl
  cases b2
  · exact Or.inr (Or.inl ⟨rfl, rfl⟩)
  cases b3
  · exact Or.inr (Or.inr (Or.inl ⟨rfl, rfl, rfl⟩))
  cases b4
  · exact Or.inr (Or.inr (Or.inr (Or.inl ⟨rfl, rfl, rfl, rfl⟩)))
  cases b5
  · exact Or.inr (Or.inr (Or.inr (Or.inr (Or.inl ⟨rfl, rfl, rfl, rfl, rfl⟩))))
  cases b6
  · exact Or.inr (Or.inr (Or.inr (Or.inr (Or.inr (Or.inl ⟨rfl, rfl, rfl, rfl, rfl, rfl⟩)))))
  exact Or.inr (Or.inr (Or.inr (Or.inr (Or.inr (Or.inr (⟨rfl, rfl, rfl, rfl, rfl, rfl⟩))))))
theorem or6 (b1 b2 b3 b4 b5 b6 : Bool) : (b1 = true) ∨ (b1 = false ∧ b2 = true) ∨ (b1 = false ∧ b2 = false ∧ b3 = true) ∨ (b1 = false ∧ b2 = false ∧ b3 = false ∧ b4 = true) ∨ (b1 = false ∧ b2 = false ∧ b3 = false ∧ b4 = false ∧ b5 = true) ∨ (b1 = false ∧ b2 = false ∧ b3 = false ∧ b4 = false ∧ b5 = false ∧ b6 = true) ∨ (b1 = false ∧ b2 = false ∧ b3 = false ∧ b4 = false ∧ b5 = false ∧ b6 = false) := by
  cases b1
  rotate_left
  · exact Or.inl rfl
  cases b2
  rotate_left
  · exact Or.inr (Or.inl ⟨rfl, rfl⟩)
  cases b3
  rotate_left
  · exact Or.inr (Or.inr (Or.inl ⟨rfl, rfl, rfl⟩))
  cases b4
  rotate_left
  · exact Or.inr (Or.inr (Or.inr (Or.inl ⟨rfl, rfl, rfl, rfl⟩)))
  cases b5
  rotate_left
  · exact Or.inr (Or.inr (Or.inr (Or.inr (Or.inl ⟨rfl, rfl, rfl, rfl, rfl⟩))))
  cases b6
  rotate_left
  · exact Or.inr (Or.inr (Or.inr (Or.inr (Or.inr (Or.inl ⟨rfl, rfl, rfl, rfl, rfl, rfl⟩)))))
  exact Or.inr (Or.inr (Or.inr (Or.inr (Or.inr (Or.inr (⟨rfl, rfl, rfl, rfl, rfl, rfl⟩))))))
theorem and7 (b1 b2 b3 b4 b5 b6 b7 : Bool) : (b1 = false) ∨ (b1 = true ∧ b2 = false) ∨ (b1 = true ∧ b2 = true ∧ b3 = false) ∨ (b1 = true ∧ b2 = true ∧ b3 = true ∧ b4 = false) ∨ (b1 = true ∧ b2 = true ∧ b3 = true ∧ b4 = true ∧ b5 = false) ∨ (b1 = true ∧ b2 = true ∧ b3 = true ∧ b4 = true ∧ b5 = true ∧ b6 = false) ∨ (b1 = true ∧ b2 = true ∧ b3 = true ∧ b4 = true ∧ b5 = true ∧ b6 = true ∧ b7 = false) ∨ (b1 = true ∧ b2 = true ∧ b3 = true ∧ b4 = true ∧ b5 = true ∧ b6 = true ∧ b7 = true) := by
  cases b1
  · exact Or.inl rfl
  cases b2
  · exact Or.inr (Or.inl ⟨rfl, rfl⟩)
  cases b3
  · exact Or.inr (Or.inr (Or.inl ⟨rfl, rfl, rfl⟩))
  cases b4
  · exact Or.inr (Or.inr (Or.inr (Or.inl ⟨rfl, rfl, rfl, rfl⟩)))
  cases b5
  · exact Or.inr (Or.inr (Or.inr (Or.inr (Or.inl ⟨rfl, rfl, rfl, rfl, rfl⟩))))
  cases b6
  · exact Or.inr (Or.inr (Or.inr (Or.inr (Or.inr (Or.inl ⟨rfl, rfl, rfl, rfl, rfl, rfl⟩)))))
  cases b7
  · exact Or.inr (Or.inr (Or.inr (Or.inr (Or.inr (Or.inr (Or.inl ⟨rfl, rfl, rfl, rfl, rfl, rfl, rfl⟩))))))
  exact Or.inr (Or.inr (Or.inr (Or.inr (Or.inr (Or.inr (Or.inr (⟨rfl, rfl, rfl, rfl, rfl, rfl, rfl⟩)))))))
theorem or7 (b1 b2 b3 b4 b5 b6 b7 : Bool) : (b1 = true) ∨ (b1 = false ∧ b2 = true) ∨ (b1 = false ∧ b2 = false ∧ b3 = true) ∨ (b1 = false ∧ b2 = false ∧ b3 = false ∧ b4 = true) ∨ (b1 = false ∧ b2 = false ∧ b3 = false ∧ b4 = false ∧ b5 = true) ∨ (b1 = false ∧ b2 = false ∧ b3 = false ∧ b4 = false ∧ b5 = false ∧ b6 = true) ∨ (b1 = false ∧ b2 = false ∧ b3 = false ∧ b4 = false ∧ b5 = false ∧ b6 = false ∧ b7 = true) ∨ (b1 = false ∧ b2 = false ∧ b3 = false ∧ b4 = false ∧ b5 = false ∧ b6 = false ∧ b7 = false) := by
  cases b1
  rotate_left
  · exact Or.inl rfl
  cases b2
  rotate_left
  · exact Or.inr (Or.inl ⟨rfl, rfl⟩)
  cases b3
  rotate_left
  · exact Or.inr (Or.inr (Or.inl ⟨rfl, rfl, rfl⟩))
  cases b4
  rotate_left
  · exact Or.inr (Or.inr (Or.inr (Or.inl ⟨rfl, rfl, rfl, rfl⟩)))
  cases b5
  rotate_left
  · exact Or.inr (Or.inr (Or.inr (Or.inr (Or.inl ⟨rfl, rfl, rfl, rfl, rfl⟩))))
  cases b6
  rotate_left
  · exact Or.inr (Or.inr (Or.inr (Or.inr (Or.inr (Or.inl ⟨rfl, rfl, rfl, rfl, rfl, rfl⟩)))))
  cases b7
  rotate_left
  · exact Or.inr (Or.inr (Or.inr (Or.inr (Or.inr (Or.inr (Or.inl ⟨rfl, rfl, rfl, rfl, rfl, rfl, rfl⟩))))))
  exact Or.inr (Or.inr (Or.inr (Or.inr (Or.inr (Or.inr (Or.inr (⟨rfl, rfl, rfl, rfl, rfl, rfl, rfl⟩)))))))
theorem and8 (b1 b2 b3 b4 b5 b6 b7 b8 : Bool) : (b1 = false) ∨ (b1 = true ∧ b2 = false) ∨ (b1 = true ∧ b2 = true ∧ b3 = false) ∨ (b1 = true ∧ b2 = true ∧ b3 = true ∧ b4 = false) ∨ (b1 = true ∧ b2 = true ∧ b3 = true ∧ b4 = true ∧ b5 = false) ∨ (b1 = true ∧ b2 = true ∧ b3 = true ∧ b4 = true ∧ b5 = true ∧ b6 = false) ∨ (b1 = true ∧ b2 = true ∧ b3 = true ∧ b4 = true ∧ b5 = true ∧ b6 = true ∧ b7 = false) ∨ (b1 = true ∧ b2 = true ∧ b3 = true ∧ b4 = true ∧ b5 = true ∧ b6 = true ∧ b7 = true ∧ b8 = false) ∨ (b1 = true ∧ b2 = true ∧ b3 = true ∧ b4 = true ∧ b5 = true ∧ b6 = true ∧ b7 = true ∧ b8 = true) := by
  cases b1
  · exact Or.inl rfl
  cases b2
  · exact Or.inr (Or.inl ⟨rfl, rfl⟩)
  cases b3
  · exact Or.inr (Or.inr (Or.inl ⟨rfl, rfl, rfl⟩))
  cases b4
  · exact Or.inr (Or.inr (Or.inr (Or.inl ⟨rfl, rfl, rfl, rfl⟩)))
  cases b5
  · exact Or.inr (Or.inr (Or.inr (Or.inr (Or.inl ⟨rfl, rfl, rfl, rfl, rfl⟩))))
  cases b6
  · exact Or.inr (Or.inr (Or.inr (Or.inr (Or.inr (Or.inl ⟨rfl, rfl, rfl, rfl, rfl, rfl⟩)))))
  cases b7
  · exact Or.inr (Or.inr (Or.inr (Or.inr (Or.inr (Or.inr (Or.inl ⟨rfl, rfl, rfl, rfl, rfl, rfl, rfl⟩))))))
  cases b8
  · exact Or.inr (Or.inr (Or.inr (Or.inr (Or.inr (Or.inr (Or.inr (Or.inl ⟨rfl, rfl, rfl, rfl, rfl, rfl, rfl, rfl⟩)))))))
  exact Or.inr (Or.inr (Or.inr (Or.inr (Or.inr (Or.inr (Or.inr (Or.inr (⟨rfl, rfl, rfl, rfl, rfl, rfl, rfl, rfl⟩))))))))
theorem or8 (b1 b2 b3 b4 b5 b6 b7 b8 : Bool) : (b1 = true) ∨ (b1 = false ∧ b2 = true) ∨ (b1 = false ∧ b2 = false ∧ b3 = true) ∨ (b1 = false ∧ b2 = false ∧ b3 = false ∧ b4 = true) ∨ (b1 = false ∧ b2 = false ∧ b3 = false ∧ b4 = false ∧ b5 = true) ∨ (b1 = false ∧ b2 = false ∧ b3 = false ∧ b4 = false ∧ b5 = false ∧ b6 = true) ∨ (b1 = false ∧ b2 = false ∧ b3 = false ∧ b4 = false ∧ b5 = false ∧ b6 = false ∧ b7 = true) ∨ (b1 = false ∧ b2 = false ∧ b3 = false ∧ b4 = false ∧ b5 = false ∧ b6 = false ∧ b7 = false ∧ b8 = true) ∨ (b1 = false ∧ b2 = false ∧ b3 = false ∧ b4 = false ∧ b5 = false ∧ b6 = false ∧ b7 = false ∧ b8 = false) := by
  cases b1
  rotate_left
  · exact Or.inl rfl
  cases b2
  rotate_left
  · exact Or.inr (Or.inl ⟨rfl, rfl⟩)
  cases b3
  rotate_left
  · exact Or.inr (Or.inr (Or.inl ⟨rfl, rfl, rfl⟩))
  cases b4
  rotate_left
  · exact Or.inr (Or.inr (Or.inr (Or.inl ⟨rfl, rfl, rfl, rfl⟩)))
  cases b5
  rotate_left
  · exact Or.inr (Or.inr (Or.inr (Or.inr (Or.inl ⟨rfl, rfl, rfl, rfl, rfl⟩))))
  cases b6
  rotate_left
  · exact Or.inr (Or.inr (Or.inr (Or.inr (Or.inr (Or.inl ⟨rfl, rfl, rfl, rfl, rfl, rfl⟩)))))
  cases b7
  rotate_left
  · exact Or.inr (Or.inr (Or.inr (Or.inr (Or.inr (Or.inr (Or.inl ⟨rfl, rfl, rfl, rfl, rfl, rfl, rfl⟩))))))
  cases b8
  rotate_left
  · exact Or.inr (Or.inr (Or.inr (Or.inr (Or.inr (Or.inr (Or.inr (Or.inl ⟨rfl, rfl, rfl, rfl, rfl, rfl, rfl, rfl⟩)))))))
  exact Or.inr (Or.inr (Or.inr (Or.inr (Or.inr (Or.inr (Or.inr (Or.inr (⟨rfl, rfl, rfl, rfl, rfl, rfl, rfl, rfl⟩))))))))
theorem and9 (b1 b2 b3 b4 b5 b6 b7 b8 b9 : Bool) : (b1 = false) ∨ (b1 = true ∧ b2 = false) ∨ (b1 = true ∧ b2 = true ∧ b3 = false) ∨ (b1 = true ∧ b2 = true ∧ b3 = true ∧ b4 = false) ∨ (b1 = true ∧ b2 = true ∧ b3 = true ∧ b4 = true ∧ b5 = false) ∨ (b1 = true ∧ b2 = true ∧ b3 = true ∧ b4 = true ∧ b5 = true ∧ b6 = false) ∨ (b1 = true ∧ b2 = true ∧ b3 = true ∧ b4 = true ∧ b5 = true ∧ b6 = true ∧ b7 = false) ∨ (b1 = true ∧ b2 = true ∧ b3 = true ∧ b4 = true ∧ b5 = true ∧ b6 = true ∧ b7 = true ∧ b8 = false) ∨ (b1 = true ∧ b2 = true ∧ b3 = true ∧ b4 = true ∧ b5 = true ∧ b6 = true ∧ b7 = true ∧ b8 = true ∧ b9 = false) ∨ (b1 = true ∧ b2 = true ∧ b3 = true ∧ b4 = true ∧ b5 = true ∧ b6 = true ∧ b7 = true ∧ b8 = true ∧ b9 = true) := by
  cases b1
  · exact Or.inl rfl
  cases b2
  · exact Or.inr (Or.inl ⟨rfl, rfl⟩)
  cases b3
  · exact Or.inr (Or.inr (Or.inl ⟨rfl, rfl, rfl⟩))
  cases b4
  · exact Or.inr (Or.inr (Or.inr (Or.inl ⟨rfl, rfl, rfl, rfl⟩)))
  cases b5
  · exact Or.inr (Or.inr (Or.inr (Or.inr (Or.inl ⟨rfl, rfl, rfl, rfl, rfl⟩))))
  cases b6
  · exact Or.inr (Or.inr (Or.inr (Or.inr (Or.inr (Or.inl ⟨rfl, rfl, rfl, rfl, rfl, rfl⟩)))))
  cases b7
  · exact Or.inr (Or.inr (Or.inr (Or.inr (Or.inr (Or.inr (Or.inl ⟨rfl, rfl, rfl, rfl, rfl, rfl, rfl⟩))))))
  cases b8
  · exact Or.inr (Or.inr (Or.inr (Or.inr (Or.inr (Or.inr (Or.inr (Or.inl ⟨rfl, rfl, rfl, rfl, rfl, rfl, rfl, rfl⟩)))))))
  cases b9
  · exact Or.inr (Or.inr (Or.inr (Or.inr (Or.inr (Or.inr (Or.inr (Or.inr (Or.inl ⟨rfl, rfl, rfl, rfl, rfl, rfl, rfl, rfl, rfl⟩))))))))
  exact Or.inr (Or.inr (Or.inr (Or.inr (Or.inr (Or.inr (Or.inr (Or.inr (Or.inr (⟨rfl, rfl, rfl, rfl, rfl, rfl, rfl, rfl, rfl⟩)))))))))
theorem or9 (b1 b2 b3 b4 b5 b6 b7 b8 b9 : Bool) : (b1 = true) ∨ (b1 = false ∧ b2 = true) ∨ (b1 = false ∧ b2 = false ∧ b3 = true) ∨ (b1 = false ∧ b2 = false ∧ b3 = false ∧ b4 = true) ∨ (b1 = false ∧ b2 = false ∧ b3 = false ∧ b4 = false ∧ b5 = true) ∨ (b1 = false ∧ b2 = false ∧ b3 = false ∧ b4 = false ∧ b5 = false ∧ b6 = true) ∨ (b1 = false ∧ b2 = false ∧ b3 = false ∧ b4 = false ∧ b5 = false ∧ b6 = false ∧ b7 = true) ∨ (b1 = false ∧ b2 = false ∧ b3 = false ∧ b4 = false ∧ b5 = false ∧ b6 = false ∧ b7 = false ∧ b8 = true) ∨ (b1 = false ∧ b2 = false ∧ b3 = false ∧ b4 = false ∧ b5 = false ∧ b6 = false ∧ b7 = false ∧ b8 = false ∧ b9 = true) ∨ (b1 = false ∧ b2 = false ∧ b3 = false ∧ b4 = false ∧ b5 = false ∧ b6 = false ∧ b7 = false ∧ b8 = false ∧ b9 = false) := by
  cases b1
  rotate_left
  · exact Or.inl rfl
  cases b2
  rotate_left
  · exact Or.inr (Or.inl ⟨rfl, rfl⟩)
  cases b3
  rotate_left
  · exact Or.inr (Or.inr (Or.inl ⟨rfl, rfl, rfl⟩))
  cases b4
  rotate_left
  · exact Or.inr (Or.inr (Or.inr (Or.inl ⟨rfl, rfl, rfl, rfl⟩)))
  cases b5
  rotate_left
  · exact Or.inr (Or.inr (Or.inr (Or.inr (Or.inl ⟨rfl, rfl, rfl, rfl, rfl⟩))))
  cases b6
  rotate_left
  · exact Or.inr (Or.inr (Or.inr (Or.inr (Or.inr (Or.inl ⟨rfl, rfl, rfl, rfl, rfl, rfl⟩)))))
  cases b7
  rotate_left
  · exact Or.inr (Or.inr (Or.inr (Or.inr (Or.inr (Or.inr (Or.inl ⟨rfl, rfl, rfl, rfl, rfl, rfl, rfl⟩))))))
  cases b8
  rotate_left
  · exact Or.inr (Or.inr (Or.inr (Or.inr (Or.inr (Or.inr (Or.inr (Or.inl ⟨rfl, rfl, rfl, rfl, rfl, rfl, rfl, rfl⟩)))))))
  cases b9
  rotate_left
  · exact Or.inr (Or.inr (Or.inr (Or.inr (Or.inr (Or.inr (Or.inr (Or.inr (Or.inl ⟨rfl, rfl, rfl, rfl, rfl, rfl, rfl, rfl, rfl⟩))))))))
  exact Or.inr (Or.inr (Or.inr (Or.inr (Or.inr (Or.inr (Or.inr (Or.inr (Or.inr (⟨rfl, rfl, rfl, rfl, rfl, rfl, rfl, rfl, rfl⟩)))))))))

theorem retBb {E : Sy.Ext} {W m0 m w : World} {bs : List Sy.Blk} (F : Sy.MemE E ⟨W, [], m0⟩ m bs w) {b b' : Bool} (h : b = b') : RetV W (.bool b) (.returned (.bool b')) w := by subst h; exact F.retV _
/-- the closure answers p -/
def ClosB {α : Type} (R : World → List Value → α → Prop) (w : World) (f : FuncId) (ks : List Value) (l : List α) (p : α → Bool) : Prop := ∀ w' m, Sub w m → Sub m w' → ∀ d ∈ l, ∀ cs, R m cs d → Calls Try.prog f ([] ++ [Value.agg cs.toArray] ++ ks).toArray w' (RetV w' (.bool (p d)))
def ClosN {α : Type} (R : World → List Value → α → Prop) (w : World) (f : FuncId) (ks : List Value) (l : List α) (p : α → Nat) : Prop := ∀ w' m, Sub w m → Sub m w' → ∀ d ∈ l, ∀ cs, R m cs d → Calls Try.prog f ([] ++ [Value.agg cs.toArray] ++ ks).toArray w' (RetV w' (.int .u64 (p d : Int)))
/-- what rises tells -/
def risesS {α : Type} (num : α → Nat) : List α → Nat → Bool
  | [], _ => true
  | x :: r, b => if num x < b then false else risesS num r ((num x + 1) % 18446744073709551616)
theorem drop_cons {α : Type} {l : List α} {k : Nat} (h : k < l.length) : l.drop k = l[k] :: l.drop (k + 1) := List.drop_eq_getElem_cons h

set_option maxRecDepth 20000 in
theorem indexDone (w : World) {a : Option Addr} {cap : Nat} {l : List DoneD} (h : Dones w a l) {f : FuncId} {ks : List Value} {p : DoneD → Bool} (hfl : Sy.fl.contains f = true) (hc : ClosB DoneR w f ks l p) :
    Calls Try.prog 95 #[.slice a l.length cap, .func (.func f) #[] ks.toArray] w (RetV w (.int .i64 (idxS p l))) := by
  have F := Sy.Mem.start (Sub.refl w)
  have hml := h.1
  unfold maxLen at hml
  refine Sy.enter Try.func95 rfl Try.ntmps95 rfl ?_; intro ac T; simp only [Sy.enum, Nat.zero_add, Nat.reduceAdd] at T
  repeat (first
    | (((with_reducible refine Sy.is_load ?_); (first | refine Sy.st_loadOne T F (h := ?_) | refine Sy.st_oldOne T F (h := ?_) | refine Sy.st_loadAll T F (h := ?_) | (refine Sy.st_loadCut T F (h := ?_); conv => whnf) | refine Sy.st_oldAgg T F (h := ?_) | (refine Sy.st_oldCut T F (h := ?_); conv => whnf)); clear T; intro ac T))
    | (((with_reducible refine Sy.is_op ?_); refine Sy.st_pure T (h := ?_); clear T; intro ac T))
    | ((with_reducible refine Sy.atK (hK _ _ ?_)))
    | ((with_reducible refine Sy.is_cond ?_); (first | refine Sy.st_true T (h := ?_) | refine Sy.st_false T (h := ?_)))
    | (with_reducible refine wpList_nil ?_)
    | (with_reducible refine wp_region_lit ?_)
    | (with_reducible refine wp_block ?_)
    | (with_reducible refine wp_skip ?_)
    | (with_reducible refine wp_exit ?_)
    | (with_reducible refine wp_ret ?_)
    | ((with_reducible refine wp_seq_k ?_); intro _ _)
    | (go_at_K; go_step)
    | (simp only [Exit.then, Exit.inBlock, ↓reduceIte, Nat.reduceEqDiff]))
  refine wp_loop_ghost_k (fun i ac w' => ∃ (k : Nat), i = l.length - k ∧ k ≤ l.length ∧ (l.take k).any p = false ∧
    Sy.Tm ac 19 [(0, .slice a l.length cap), (1, .func (.func f) #[] ks.toArray), (7, .int .i64 (l.length : Int)), (8, .int .i64 (k : Int))] ∧ Sy.Mem ⟨w, [], w⟩ w [] w') l.length ?_ ?_
  · exact ⟨0, rfl, Nat.zero_le _, rfl, (T.part (by repeat (first | exact Sy.Part.nil | apply Sy.Part.cons rfl))), F⟩
  intro i ac w' hI J K hJ hK
  obtain ⟨k, rfl, hk, hn, T, F⟩ := hI
  by_cases hlt : k < l.length
  · have t1 : decide ((k : Int) < (l.length : Int)) = true := decide_eq_true (by omega)
    have t2 : IntKind.i64.wrap ((k : Int) + 1) = ((k + 1 : Nat) : Int) := by rw [i64_wrap (by omega) (by omega)]; omega
    obtain ⟨b, o, cs, ha, hcl, hat, hr⟩ := rows_get h hlt
    subst ha
    repeat (first
    | (((with_reducible refine Sy.is_load ?_); (first | refine Sy.st_loadOne T F (h := ?_) | refine Sy.st_oldOne T F (h := ?_) | refine Sy.st_loadAll T F (h := ?_) | (refine Sy.st_loadCut T F (h := ?_); conv => whnf) | refine Sy.st_oldAgg T F (h := ?_) | (refine Sy.st_oldCut T F (h := ?_); conv => whnf)); clear T; intro ac T))
    | (((with_reducible refine Sy.is_op ?_); refine Sy.st_pure T (h := ?_); clear T; intro ac T))
    | ((with_reducible refine Sy.atK (hK _ _ ?_)))
    | ((with_reducible refine Sy.is_cond ?_); (first | refine Sy.st_true T (h := ?_) | refine Sy.st_false T (h := ?_)))
    | (with_reducible refine wpList_nil ?_)
    | (with_reducible refine wp_region_lit ?_)
    | (with_reducible refine wp_block ?_)
    | (with_reducible refine wp_skip ?_)
    | (with_reducible refine wp_exit ?_)
    | (with_reducible refine wp_ret ?_)
    | ((with_reducible refine wp_seq_k ?_); intro _ _)
    | (go_at_K; go_step)
    | (simp only [Exit.then, Exit.inBlock, ↓reduceIte, Nat.reduceEqDiff]))
    have hcc := hc _ _ (Sub.refl _) F.sub _ (List.getElem_mem hlt) cs hr
    cases hp : p l[k]
    · rw [hp] at hcc
      refine Sy.st_callV (us := []) (ks := ks) T F (by exact rfl) hfl (by exact rfl) (by exact rfl) hcc ?_; (clear T F; intro ac w T F)
      repeat (first
    | (((with_reducible refine Sy.is_load ?_); (first | refine Sy.st_loadOne T F (h := ?_) | refine Sy.st_oldOne T F (h := ?_) | refine Sy.st_loadAll T F (h := ?_) | (refine Sy.st_loadCut T F (h := ?_); conv => whnf) | refine Sy.st_oldAgg T F (h := ?_) | (refine Sy.st_oldCut T F (h := ?_); conv => whnf)); clear T; intro ac T))
    | (((with_reducible refine Sy.is_op ?_); refine Sy.st_pure T (h := ?_); clear T; intro ac T))
    | ((with_reducible refine Sy.atK (hK _ _ ?_)))
    | ((with_reducible refine Sy.is_cond ?_); (first | refine Sy.st_true T (h := ?_) | refine Sy.st_false T (h := ?_)))
    | (with_reducible refine wpList_nil ?_)
    | (with_reducible refine wp_region_lit ?_)
    | (with_reducible refine wp_block ?_)
    | (with_reducible refine wp_skip ?_)
    | (with_reducible refine wp_exit ?_)
    | (with_reducible refine wp_ret ?_)
    | ((with_reducible refine wp_seq_k ?_); intro _ _)
    | (go_at_K; go_step)
    | (simp only [Exit.then, Exit.inBlock, ↓reduceIte, Nat.reduceEqDiff]))
      exact Sy.handed hJ (k := l.length - (k + 1)) (by omega) ⟨k + 1, rfl, by omega, any_up hlt hn hp, (T.part (by repeat (first | exact Sy.Part.nil | apply Sy.Part.cons rfl))), F⟩
    · rw [hp] at hcc
      refine Sy.st_callV (us := []) (ks := ks) T F (by exact rfl) hfl (by exact rfl) (by exact rfl) hcc ?_; (clear T F; intro ac w T F)
      repeat (first
    | (((with_reducible refine Sy.is_load ?_); (first | refine Sy.st_loadOne T F (h := ?_) | refine Sy.st_oldOne T F (h := ?_) | refine Sy.st_loadAll T F (h := ?_) | (refine Sy.st_loadCut T F (h := ?_); conv => whnf) | refine Sy.st_oldAgg T F (h := ?_) | (refine Sy.st_oldCut T F (h := ?_); conv => whnf)); clear T; intro ac T))
    | (((with_reducible refine Sy.is_op ?_); refine Sy.st_pure T (h := ?_); clear T; intro ac T))
    | ((with_reducible refine Sy.atK (hK _ _ ?_)))
    | ((with_reducible refine Sy.is_cond ?_); (first | refine Sy.st_true T (h := ?_) | refine Sy.st_false T (h := ?_)))
    | (with_reducible refine wpList_nil ?_)
    | (with_reducible refine wp_region_lit ?_)
    | (with_reducible refine wp_block ?_)
    | (with_reducible refine wp_skip ?_)
    | (with_reducible refine wp_exit ?_)
    | (with_reducible refine wp_ret ?_)
    | ((with_reducible refine wp_seq_k ?_); intro _ _)
    | (go_at_K; go_step)
    | (simp only [Exit.then, Exit.inBlock, ↓reduceIte, Nat.reduceEqDiff]))
      ((try simp only [Exit.inBlock, Exit.then]); refine Sy.st_ret1 T F rfl (by repeat (first | exact Sy.ResV.nil | apply Sy.ResV.tmp rfl | apply Sy.ResV.row rfl rfl rfl (by repeat (first | exact Sy.Take.here | apply Sy.Take.there)) (by rfl) | apply Sy.ResV.one rfl rfl rfl (by repeat (first | exact Sy.Take.here | apply Sy.Take.there)) (by rfl))) ?_)
      rw [idx_some hlt hn hp]
      exact F.retV _
  · obtain rfl : k = l.length := by omega
    have t1 : decide ((l.length : Int) < (l.length : Int)) = false := decide_eq_false (by omega)
    rw [List.take_length] at hn
    repeat (first
    | (((with_reducible refine Sy.is_load ?_); (first | refine Sy.st_loadOne T F (h := ?_) | refine Sy.st_oldOne T F (h := ?_) | refine Sy.st_loadAll T F (h := ?_) | (refine Sy.st_loadCut T F (h := ?_); conv => whnf) | refine Sy.st_oldAgg T F (h := ?_) | (refine Sy.st_oldCut T F (h := ?_); conv => whnf)); clear T; intro ac T))
    | (((with_reducible refine Sy.is_op ?_); refine Sy.st_pure T (h := ?_); clear T; intro ac T))
    | ((with_reducible refine Sy.atK (hK _ _ ?_)))
    | ((with_reducible refine Sy.is_cond ?_); (first | refine Sy.st_true T (h := ?_) | refine Sy.st_false T (h := ?_)))
    | (with_reducible refine wpList_nil ?_)
    | (with_reducible refine wp_region_lit ?_)
    | (with_reducible refine wp_block ?_)
    | (with_reducible refine wp_skip ?_)
    | (with_reducible refine wp_exit ?_)
    | (with_reducible refine wp_ret ?_)
    | ((with_reducible refine wp_seq_k ?_); intro _ _)
    | (go_at_K; go_step)
    | (simp only [Exit.then, Exit.inBlock, ↓reduceIte, Nat.reduceEqDiff]))
    ((try simp only [Exit.inBlock, Exit.then]); refine Sy.st_ret1 T F rfl (by repeat (first | exact Sy.ResV.nil | apply Sy.ResV.tmp rfl | apply Sy.ResV.row rfl rfl rfl (by repeat (first | exact Sy.Take.here | apply Sy.Take.there)) (by rfl) | apply Sy.ResV.one rfl rfl rfl (by repeat (first | exact Sy.Take.here | apply Sy.Take.there)) (by rfl))) ?_)
    rw [idx_none hn]
    exact F.retV _
set_option maxRecDepth 20000 in
theorem containsDone (w : World) {a : Option Addr} {cap : Nat} {l : List DoneD} (h : Dones w a l) {f : FuncId} {ks : List Value} {p : DoneD → Bool} (hfl : Sy.fl.contains f = true) (hc : ClosB DoneR w f ks l p) :
    Calls Try.prog 81 #[.slice a l.length cap, .func (.func f) #[] ks.toArray] w (RetV w (.bool (l.any p))) := by
  have F := Sy.Mem.start (Sub.refl w)
  have t1 : decide (idxS p l ≥ 0) = l.any p := idx_any p l
  refine Sy.enter Try.func81 rfl Try.ntmps81 rfl ?_; intro ac T; simp only [Sy.enum, Nat.zero_add, Nat.reduceAdd] at T
  repeat (first
    | (((with_reducible refine Sy.is_op ?_); refine Sy.st_pure T (h := ?_); clear T; intro ac T))
    | ((with_reducible refine Sy.atK (hK _ _ ?_)))
    | ((with_reducible refine Sy.is_cond ?_); (first | refine Sy.st_true T (h := ?_) | refine Sy.st_false T (h := ?_)))
    | (with_reducible refine wpList_nil ?_)
    | (with_reducible refine wp_region_lit ?_)
    | (with_reducible refine wp_block ?_)
    | (with_reducible refine wp_skip ?_)
    | (with_reducible refine wp_exit ?_)
    | (with_reducible refine wp_ret ?_)
    | ((with_reducible refine wp_seq_k ?_); intro _ _)
    | (go_at_K; go_step)
    | (simp only [Exit.then, Exit.inBlock, ↓reduceIte, Nat.reduceEqDiff]))
  refine Sy.st_callV0 T F (hc := indexDone _ h hfl hc) (h := ?_); (clear T F; intro ac w T F)
  repeat (first
    | (((with_reducible refine Sy.is_op ?_); refine Sy.st_pure T (h := ?_); clear T; intro ac T))
    | ((with_reducible refine Sy.atK (hK _ _ ?_)))
    | ((with_reducible refine Sy.is_cond ?_); (first | refine Sy.st_true T (h := ?_) | refine Sy.st_false T (h := ?_)))
    | (with_reducible refine wpList_nil ?_)
    | (with_reducible refine wp_region_lit ?_)
    | (with_reducible refine wp_block ?_)
    | (with_reducible refine wp_skip ?_)
    | (with_reducible refine wp_exit ?_)
    | (with_reducible refine wp_ret ?_)
    | ((with_reducible refine wp_seq_k ?_); intro _ _)
    | (go_at_K; go_step)
    | (simp only [Exit.then, Exit.inBlock, ↓reduceIte, Nat.reduceEqDiff]))
  ((try simp only [Exit.inBlock, Exit.then]); refine Sy.st_ret1 T F rfl (by repeat (first | exact Sy.ResV.nil | apply Sy.ResV.tmp rfl | apply Sy.ResV.row rfl rfl rfl (by repeat (first | exact Sy.Take.here | apply Sy.Take.there)) (by rfl) | apply Sy.ResV.one rfl rfl rfl (by repeat (first | exact Sy.Take.here | apply Sy.Take.there)) (by rfl))) ?_)
  exact F.retV _
set_option maxRecDepth 20000 in
theorem risesDone (w : World) {a : Option Addr} {cap : Nat} {l : List DoneD} (h : Dones w a l) {f : FuncId} {ks : List Value} {p : DoneD → Nat} (hfl : Sy.fl.contains f = true) (hc : ClosN DoneR w f ks l p) (least : Nat) :
    Calls Try.prog 84 #[.slice a l.length cap, .int .u64 (least : Int), .func (.func f) #[] ks.toArray] w (RetV w (.bool (risesS p l least))) := by
  have F := Sy.Mem.start (Sub.refl w)
  have hml := h.1
  unfold maxLen at hml
  refine Sy.enter Try.func84 rfl Try.ntmps84 rfl ?_; intro ac T; simp only [Sy.enum, Nat.zero_add, Nat.reduceAdd] at T
  repeat (first
    | (((with_reducible refine Sy.is_load ?_); (first | refine Sy.st_loadOne T F (h := ?_) | refine Sy.st_oldOne T F (h := ?_) | refine Sy.st_loadAll T F (h := ?_) | (refine Sy.st_loadCut T F (h := ?_); conv => whnf) | refine Sy.st_oldAgg T F (h := ?_) | (refine Sy.st_oldCut T F (h := ?_); conv => whnf)); clear T; intro ac T))
    | (((with_reducible refine Sy.is_store ?_); (first | refine Sy.st_storeAll T F (h := ?_) | (refine Sy.st_storeOne T F (h := ?_); conv => whnf) | (refine Sy.st_storeAgg T F (h := ?_); conv => whnf)); clear T F; intro ac w T F))
    | (((with_reducible refine Sy.is_alloc ?_); refine Sy.st_alloc T F (h := ?_); clear T F; intro ac g w T F))
    | (((with_reducible refine Sy.is_op ?_); refine Sy.st_pure T (h := ?_); clear T; intro ac T))
    | ((with_reducible refine Sy.atK (hK _ _ ?_)))
    | ((with_reducible refine Sy.is_cond ?_); (first | refine Sy.st_true T (h := ?_) | refine Sy.st_false T (h := ?_)))
    | (with_reducible refine wpList_nil ?_)
    | (with_reducible refine wp_region_lit ?_)
    | (with_reducible refine wp_block ?_)
    | (with_reducible refine wp_skip ?_)
    | (with_reducible refine wp_exit ?_)
    | (with_reducible refine wp_ret ?_)
    | ((with_reducible refine wp_seq_k ?_); intro _ _)
    | (go_at_K; go_step)
    | (simp only [Exit.then, Exit.inBlock, ↓reduceIte, Nat.reduceEqDiff]))
  refine wp_loop_ghost_k (fun i ac w' => ∃ (k b : Nat), i = l.length - k ∧ k ≤ l.length ∧ risesS p l least = risesS p (l.drop k) b ∧
    Sy.Tm ac 25 [(1, .int .u64 (b : Int)), (2, .func (.func f) #[] ks.toArray), (10, .slice a l.length cap), (11, .int .i64 (l.length : Int)), (12, .int .i64 (k : Int))] ∧ Sy.Mem ⟨w, [], w⟩ w [] w') l.length ?_ ?_
  · exact ⟨0, least, rfl, Nat.zero_le _, rfl, (T.part (by repeat (first | exact Sy.Part.nil | apply Sy.Part.cons rfl))), F⟩
  intro i ac w' hI J K hJ hK
  obtain ⟨k, b, rfl, hk, hn, T, F⟩ := hI
  by_cases hlt : k < l.length
  · have t1 : decide ((k : Int) < (l.length : Int)) = true := decide_eq_true (by omega)
    have t2 : IntKind.i64.wrap ((k : Int) + 1) = ((k + 1 : Nat) : Int) := by rw [i64_wrap (by omega) (by omega)]; omega
    obtain ⟨bb, o, cs, ha, hcl, hat, hr⟩ := rows_get h hlt
    subst ha
    rw [drop_cons hlt] at hn
    have t3 : IntKind.u64.wrap ((p l[k] : Int) + 1) = (((p l[k] + 1) % 18446744073709551616 : Nat) : Int) := by rw [IntKind.wrap_u64]; omega
    have hone : (Value.agg cs.toArray).cells = cs.toArray := rfl
    have h1 : cs.all (·.oneCell') = true := by (have hr2 := hr; obtain ⟨q, rfl, _⟩ := hr2; rfl)
    repeat (first
    | (((with_reducible refine Sy.is_load ?_); (first | refine Sy.st_loadOne T F (h := ?_) | refine Sy.st_oldOne T F (h := ?_) | refine Sy.st_loadAll T F (h := ?_) | (refine Sy.st_loadCut T F (h := ?_); conv => whnf) | refine Sy.st_oldAgg T F (h := ?_) | (refine Sy.st_oldCut T F (h := ?_); conv => whnf)); clear T; intro ac T))
    | (((with_reducible refine Sy.is_store ?_); (first | refine Sy.st_storeAll T F (h := ?_) | (refine Sy.st_storeOne T F (h := ?_); conv => whnf) | (refine Sy.st_storeAgg T F (h := ?_); conv => whnf)); clear T F; intro ac w T F))
    | (((with_reducible refine Sy.is_alloc ?_); refine Sy.st_alloc T F (h := ?_); clear T F; intro ac g w T F))
    | (((with_reducible refine Sy.is_op ?_); refine Sy.st_pure T (h := ?_); clear T; intro ac T))
    | ((with_reducible refine Sy.atK (hK _ _ ?_)))
    | ((with_reducible refine Sy.is_cond ?_); (first | refine Sy.st_true T (h := ?_) | refine Sy.st_false T (h := ?_)))
    | (with_reducible refine wpList_nil ?_)
    | (with_reducible refine wp_region_lit ?_)
    | (with_reducible refine wp_block ?_)
    | (with_reducible refine wp_skip ?_)
    | (with_reducible refine wp_exit ?_)
    | (with_reducible refine wp_ret ?_)
    | ((with_reducible refine wp_seq_k ?_); intro _ _)
    | (go_at_K; go_step)
    | (simp only [Exit.then, Exit.inBlock, ↓reduceIte, Nat.reduceEqDiff]))
    have hcc := hc _ _ (Sub.refl _) F.sub _ (List.getElem_mem hlt) cs hr
    by_cases hp : p l[k] < b
    · have t4 : decide ((p l[k] : Int) < (b : Int)) = true := decide_eq_true (by omega)
      refine Sy.st_callV (us := []) (ks := ks) T F (by exact rfl) hfl (by exact rfl) (by exact rfl) hcc ?_; (clear T F; intro ac w T F)
      repeat (first
    | (((with_reducible refine Sy.is_load ?_); (first | refine Sy.st_loadOne T F (h := ?_) | refine Sy.st_oldOne T F (h := ?_) | refine Sy.st_loadAll T F (h := ?_) | (refine Sy.st_loadCut T F (h := ?_); conv => whnf) | refine Sy.st_oldAgg T F (h := ?_) | (refine Sy.st_oldCut T F (h := ?_); conv => whnf)); clear T; intro ac T))
    | (((with_reducible refine Sy.is_store ?_); (first | refine Sy.st_storeAll T F (h := ?_) | (refine Sy.st_storeOne T F (h := ?_); conv => whnf) | (refine Sy.st_storeAgg T F (h := ?_); conv => whnf)); clear T F; intro ac w T F))
    | (((with_reducible refine Sy.is_alloc ?_); refine Sy.st_alloc T F (h := ?_); clear T F; intro ac g w T F))
    | (((with_reducible refine Sy.is_op ?_); refine Sy.st_pure T (h := ?_); clear T; intro ac T))
    | ((with_reducible refine Sy.atK (hK _ _ ?_)))
    | ((with_reducible refine Sy.is_cond ?_); (first | refine Sy.st_true T (h := ?_) | refine Sy.st_false T (h := ?_)))
    | (with_reducible refine wpList_nil ?_)
    | (with_reducible refine wp_region_lit ?_)
    | (with_reducible refine wp_block ?_)
    | (with_reducible refine wp_skip ?_)
    | (with_reducible refine wp_exit ?_)
    | (with_reducible refine wp_ret ?_)
    | ((with_reducible refine wp_seq_k ?_); intro _ _)
    | (go_at_K; go_step)
    | (simp only [Exit.then, Exit.inBlock, ↓reduceIte, Nat.reduceEqDiff]))
      ((try simp only [Exit.inBlock, Exit.then]); refine Sy.st_ret1 T F rfl (by repeat (first | exact Sy.ResV.nil | apply Sy.ResV.tmp rfl | apply Sy.ResV.row rfl rfl rfl (by repeat (first | exact Sy.Take.here | apply Sy.Take.there)) (by rfl) | apply Sy.ResV.one rfl rfl rfl (by repeat (first | exact Sy.Take.here | apply Sy.Take.there)) (by rfl))) ?_)
      exact retBb F (by rw [hn, risesS, if_pos hp])
    · have t4 : decide ((p l[k] : Int) < (b : Int)) = false := decide_eq_false (by omega)
      refine Sy.st_callV (us := []) (ks := ks) T F (by exact rfl) hfl (by exact rfl) (by exact rfl) hcc ?_; (clear T F; intro ac w T F)
      repeat (first
    | (((with_reducible refine Sy.is_load ?_); (first | refine Sy.st_loadOne T F (h := ?_) | refine Sy.st_oldOne T F (h := ?_) | refine Sy.st_loadAll T F (h := ?_) | (refine Sy.st_loadCut T F (h := ?_); conv => whnf) | refine Sy.st_oldAgg T F (h := ?_) | (refine Sy.st_oldCut T F (h := ?_); conv => whnf)); clear T; intro ac T))
    | (((with_reducible refine Sy.is_store ?_); (first | refine Sy.st_storeAll T F (h := ?_) | (refine Sy.st_storeOne T F (h := ?_); conv => whnf) | (refine Sy.st_storeAgg T F (h := ?_); conv => whnf)); clear T F; intro ac w T F))
    | (((with_reducible refine Sy.is_alloc ?_); refine Sy.st_alloc T F (h := ?_); clear T F; intro ac g w T F))
    | (((with_reducible refine Sy.is_op ?_); refine Sy.st_pure T (h := ?_); clear T; intro ac T))
    | ((with_reducible refine Sy.atK (hK _ _ ?_)))
    | ((with_reducible refine Sy.is_cond ?_); (first | refine Sy.st_true T (h := ?_) | refine Sy.st_false T (h := ?_)))
    | (with_reducible refine wpList_nil ?_)
    | (with_reducible refine wp_region_lit ?_)
    | (with_reducible refine wp_block ?_)
    | (with_reducible refine wp_skip ?_)
    | (with_reducible refine wp_exit ?_)
    | (with_reducible refine wp_ret ?_)
    | ((with_reducible refine wp_seq_k ?_); intro _ _)
    | (go_at_K; go_step)
    | (simp only [Exit.then, Exit.inBlock, ↓reduceIte, Nat.reduceEqDiff]))
      exact Sy.handed hJ (k := l.length - (k + 1)) (by omega) ⟨k + 1, _, rfl, by omega, by rw [hn, risesS, if_neg hp], (T.part (by repeat (first | exact Sy.Part.nil | apply Sy.Part.cons rfl))), (F.sel (by repeat (first | exact Sy.Sel.nil | apply Sy.Sel.cons (by repeat (first | exact Sy.Take.here | apply Sy.Take.there)))))⟩
  · obtain rfl : k = l.length := by omega
    have t1 : decide ((l.length : Int) < (l.length : Int)) = false := decide_eq_false (by omega)
    repeat (first
    | (((with_reducible refine Sy.is_load ?_); (first | refine Sy.st_loadOne T F (h := ?_) | refine Sy.st_oldOne T F (h := ?_) | refine Sy.st_loadAll T F (h := ?_) | (refine Sy.st_loadCut T F (h := ?_); conv => whnf) | refine Sy.st_oldAgg T F (h := ?_) | (refine Sy.st_oldCut T F (h := ?_); conv => whnf)); clear T; intro ac T))
    | (((with_reducible refine Sy.is_store ?_); (first | refine Sy.st_storeAll T F (h := ?_) | (refine Sy.st_storeOne T F (h := ?_); conv => whnf) | (refine Sy.st_storeAgg T F (h := ?_); conv => whnf)); clear T F; intro ac w T F))
    | (((with_reducible refine Sy.is_alloc ?_); refine Sy.st_alloc T F (h := ?_); clear T F; intro ac g w T F))
    | (((with_reducible refine Sy.is_op ?_); refine Sy.st_pure T (h := ?_); clear T; intro ac T))
    | ((with_reducible refine Sy.atK (hK _ _ ?_)))
    | ((with_reducible refine Sy.is_cond ?_); (first | refine Sy.st_true T (h := ?_) | refine Sy.st_false T (h := ?_)))
    | (with_reducible refine wpList_nil ?_)
    | (with_reducible refine wp_region_lit ?_)
    | (with_reducible refine wp_block ?_)
    | (with_reducible refine wp_skip ?_)
    | (with_reducible refine wp_exit ?_)
    | (with_reducible refine wp_ret ?_)
    | ((with_reducible refine wp_seq_k ?_); intro _ _)
    | (go_at_K; go_step)
    | (simp only [Exit.then, Exit.inBlock, ↓reduceIte, Nat.reduceEqDiff]))
    ((try simp only [Exit.inBlock, Exit.then]); refine Sy.st_ret1 T F rfl (by repeat (first | exact Sy.ResV.nil | apply Sy.ResV.tmp rfl | apply Sy.ResV.row rfl rfl rfl (by repeat (first | exact Sy.Take.here | apply Sy.Take.there)) (by rfl) | apply Sy.ResV.one rfl rfl rfl (by repeat (first | exact Sy.Take.here | apply Sy.Take.there)) (by rfl))) ?_)
    exact retBb F (by rw [hn, List.drop_length]; rfl)

set_option maxRecDepth 20000 in
theorem indexCell (w : World) {a : Option Addr} {cap : Nat} {l : List CellD} (h : Cels w a l) {f : FuncId} {ks : List Value} {p : CellD → Bool} (hfl : Sy.fl.contains f = true) (hc : ClosB CellR w f ks l p) :
    Calls Try.prog 77 #[.slice a l.length cap, .func (.func f) #[] ks.toArray] w (RetV w (.int .i64 (idxS p l))) := by
  have F := Sy.Mem.start (Sub.refl w)
  have hml := h.1
  unfold maxLen at hml
  refine Sy.enter Try.func77 rfl Try.ntmps77 rfl ?_; intro ac T; simp only [Sy.enum, Nat.zero_add, Nat.reduceAdd] at T
  repeat (first
    | (((with_reducible refine Sy.is_load ?_); (first | refine Sy.st_loadOne T F (h := ?_) | refine Sy.st_oldOne T F (h := ?_) | refine Sy.st_loadAll T F (h := ?_) | (refine Sy.st_loadCut T F (h := ?_); conv => whnf) | refine Sy.st_oldAgg T F (h := ?_) | (refine Sy.st_oldCut T F (h := ?_); conv => whnf)); clear T; intro ac T))
    | (((with_reducible refine Sy.is_op ?_); refine Sy.st_pure T (h := ?_); clear T; intro ac T))
    | ((with_reducible refine Sy.atK (hK _ _ ?_)))
    | ((with_reducible refine Sy.is_cond ?_); (first | refine Sy.st_true T (h := ?_) | refine Sy.st_false T (h := ?_)))
    | (with_reducible refine wpList_nil ?_)
    | (with_reducible refine wp_region_lit ?_)
    | (with_reducible refine wp_block ?_)
    | (with_reducible refine wp_skip ?_)
    | (with_reducible refine wp_exit ?_)
    | (with_reducible refine wp_ret ?_)
    | ((with_reducible refine wp_seq_k ?_); intro _ _)
    | (go_at_K; go_step)
    | (simp only [Exit.then, Exit.inBlock, ↓reduceIte, Nat.reduceEqDiff]))
  refine wp_loop_ghost_k (fun i ac w' => ∃ (k : Nat), i = l.length - k ∧ k ≤ l.length ∧ (l.take k).any p = false ∧
    Sy.Tm ac 19 [(0, .slice a l.length cap), (1, .func (.func f) #[] ks.toArray), (7, .int .i64 (l.length : Int)), (8, .int .i64 (k : Int))] ∧ Sy.Mem ⟨w, [], w⟩ w [] w') l.length ?_ ?_
  · exact ⟨0, rfl, Nat.zero_le _, rfl, (T.part (by repeat (first | exact Sy.Part.nil | apply Sy.Part.cons rfl))), F⟩
  intro i ac w' hI J K hJ hK
  obtain ⟨k, rfl, hk, hn, T, F⟩ := hI
  by_cases hlt : k < l.length
  · have t1 : decide ((k : Int) < (l.length : Int)) = true := decide_eq_true (by omega)
    have t2 : IntKind.i64.wrap ((k : Int) + 1) = ((k + 1 : Nat) : Int) := by rw [i64_wrap (by omega) (by omega)]; omega
    obtain ⟨b, o, cs, ha, hcl, hat, hr⟩ := rows_get h hlt
    subst ha
    repeat (first
    | (((with_reducible refine Sy.is_load ?_); (first | refine Sy.st_loadOne T F (h := ?_) | refine Sy.st_oldOne T F (h := ?_) | refine Sy.st_loadAll T F (h := ?_) | (refine Sy.st_loadCut T F (h := ?_); conv => whnf) | refine Sy.st_oldAgg T F (h := ?_) | (refine Sy.st_oldCut T F (h := ?_); conv => whnf)); clear T; intro ac T))
    | (((with_reducible refine Sy.is_op ?_); refine Sy.st_pure T (h := ?_); clear T; intro ac T))
    | ((with_reducible refine Sy.atK (hK _ _ ?_)))
    | ((with_reducible refine Sy.is_cond ?_); (first | refine Sy.st_true T (h := ?_) | refine Sy.st_false T (h := ?_)))
    | (with_reducible refine wpList_nil ?_)
    | (with_reducible refine wp_region_lit ?_)
    | (with_reducible refine wp_block ?_)
    | (with_reducible refine wp_skip ?_)
    | (with_reducible refine wp_exit ?_)
    | (with_reducible refine wp_ret ?_)
    | ((with_reducible refine wp_seq_k ?_); intro _ _)
    | (go_at_K; go_step)
    | (simp only [Exit.then, Exit.inBlock, ↓reduceIte, Nat.reduceEqDiff]))
    have hcc := hc _ _ (Sub.refl _) F.sub _ (List.getElem_mem hlt) cs hr
    cases hp : p l[k]
    · rw [hp] at hcc
      refine Sy.st_callV (us := []) (ks := ks) T F (by exact rfl) hfl (by exact rfl) (by exact rfl) hcc ?_; (clear T F; intro ac w T F)
      repeat (first
    | (((with_reducible refine Sy.is_load ?_); (first | refine Sy.st_loadOne T F (h := ?_) | refine Sy.st_oldOne T F (h := ?_) | refine Sy.st_loadAll T F (h := ?_) | (refine Sy.st_loadCut T F (h := ?_); conv => whnf) | refine Sy.st_oldAgg T F (h := ?_) | (refine Sy.st_oldCut T F (h := ?_); conv => whnf)); clear T; intro ac T))
    | (((with_reducible refine Sy.is_op ?_); refine Sy.st_pure T (h := ?_); clear T; intro ac T))
    | ((with_reducible refine Sy.atK (hK _ _ ?_)))
    | ((with_reducible refine Sy.is_cond ?_); (first | refine Sy.st_true T (h := ?_) | refine Sy.st_false T (h := ?_)))
    | (with_reducible refine wpList_nil ?_)
    | (with_reducible refine wp_region_lit ?_)
    | (with_reducible refine wp_block ?_)
    | (with_reducible refine wp_skip ?_)
    | (with_reducible refine wp_exit ?_)
    | (with_reducible refine wp_ret ?_)
    | ((with_reducible refine wp_seq_k ?_); intro _ _)
    | (go_at_K; go_step)
    | (simp only [Exit.then, Exit.inBlock, ↓reduceIte, Nat.reduceEqDiff]))
      exact Sy.handed hJ (k := l.length - (k + 1)) (by omega) ⟨k + 1, rfl, by omega, any_up hlt hn hp, (T.part (by repeat (first | exact Sy.Part.nil | apply Sy.Part.cons rfl))), F⟩
    · rw [hp] at hcc
      refine Sy.st_callV (us := []) (ks := ks) T F (by exact rfl) hfl (by exact rfl) (by exact rfl) hcc ?_; (clear T F; intro ac w T F)
      repeat (first
    | (((with_reducible refine Sy.is_load ?_); (first | refine Sy.st_loadOne T F (h := ?_) | refine Sy.st_oldOne T F (h := ?_) | refine Sy.st_loadAll T F (h := ?_) | (refine Sy.st_loadCut T F (h := ?_); conv => whnf) | refine Sy.st_oldAgg T F (h := ?_) | (refine Sy.st_oldCut T F (h := ?_); conv => whnf)); clear T; intro ac T))
    | (((with_reducible refine Sy.is_op ?_); refine Sy.st_pure T (h := ?_); clear T; intro ac T))
    | ((with_reducible refine Sy.atK (hK _ _ ?_)))
    | ((with_reducible refine Sy.is_cond ?_); (first | refine Sy.st_true T (h := ?_) | refine Sy.st_false T (h := ?_)))
    | (with_reducible refine wpList_nil ?_)
    | (with_reducible refine wp_region_lit ?_)
    | (with_reducible refine wp_block ?_)
    | (with_reducible refine wp_skip ?_)
    | (with_reducible refine wp_exit ?_)
    | (with_reducible refine wp_ret ?_)
    | ((with_reducible refine wp_seq_k ?_); intro _ _)
    | (go_at_K; go_step)
    | (simp only [Exit.then, Exit.inBlock, ↓reduceIte, Nat.reduceEqDiff]))
      ((try simp only [Exit.inBlock, Exit.then]); refine Sy.st_ret1 T F rfl (by repeat (first | exact Sy.ResV.nil | apply Sy.ResV.tmp rfl | apply Sy.ResV.row rfl rfl rfl (by repeat (first | exact Sy.Take.here | apply Sy.Take.there)) (by rfl) | apply Sy.ResV.one rfl rfl rfl (by repeat (first | exact Sy.Take.here | apply Sy.Take.there)) (by rfl))) ?_)
      rw [idx_some hlt hn hp]
      exact F.retV _
  · obtain rfl : k = l.length := by omega
    have t1 : decide ((l.length : Int) < (l.length : Int)) = false := decide_eq_false (by omega)
    rw [List.take_length] at hn
    repeat (first
    | (((with_reducible refine Sy.is_load ?_); (first | refine Sy.st_loadOne T F (h := ?_) | refine Sy.st_oldOne T F (h := ?_) | refine Sy.st_loadAll T F (h := ?_) | (refine Sy.st_loadCut T F (h := ?_); conv => whnf) | refine Sy.st_oldAgg T F (h := ?_) | (refine Sy.st_oldCut T F (h := ?_); conv => whnf)); clear T; intro ac T))
    | (((with_reducible refine Sy.is_op ?_); refine Sy.st_pure T (h := ?_); clear T; intro ac T))
    | ((with_reducible refine Sy.atK (hK _ _ ?_)))
    | ((with_reducible refine Sy.is_cond ?_); (first | refine Sy.st_true T (h := ?_) | refine Sy.st_false T (h := ?_)))
    | (with_reducible refine wpList_nil ?_)
    | (with_reducible refine wp_region_lit ?_)
    | (with_reducible refine wp_block ?_)
    | (with_reducible refine wp_skip ?_)
    | (with_reducible refine wp_exit ?_)
    | (with_reducible refine wp_ret ?_)
    | ((with_reducible refine wp_seq_k ?_); intro _ _)
    | (go_at_K; go_step)
    | (simp only [Exit.then, Exit.inBlock, ↓reduceIte, Nat.reduceEqDiff]))
    ((try simp only [Exit.inBlock, Exit.then]); refine Sy.st_ret1 T F rfl (by repeat (first | exact Sy.ResV.nil | apply Sy.ResV.tmp rfl | apply Sy.ResV.row rfl rfl rfl (by repeat (first | exact Sy.Take.here | apply Sy.Take.there)) (by rfl) | apply Sy.ResV.one rfl rfl rfl (by repeat (first | exact Sy.Take.here | apply Sy.Take.there)) (by rfl))) ?_)
    rw [idx_none hn]
    exact F.retV _
set_option maxRecDepth 20000 in
theorem containsCell (w : World) {a : Option Addr} {cap : Nat} {l : List CellD} (h : Cels w a l) {f : FuncId} {ks : List Value} {p : CellD → Bool} (hfl : Sy.fl.contains f = true) (hc : ClosB CellR w f ks l p) :
    Calls Try.prog 36 #[.slice a l.length cap, .func (.func f) #[] ks.toArray] w (RetV w (.bool (l.any p))) := by
  have F := Sy.Mem.start (Sub.refl w)
  have t1 : decide (idxS p l ≥ 0) = l.any p := idx_any p l
  refine Sy.enter Try.func36 rfl Try.ntmps36 rfl ?_; intro ac T; simp only [Sy.enum, Nat.zero_add, Nat.reduceAdd] at T
  repeat (first
    | (((with_reducible refine Sy.is_op ?_); refine Sy.st_pure T (h := ?_); clear T; intro ac T))
    | ((with_reducible refine Sy.atK (hK _ _ ?_)))
    | ((with_reducible refine Sy.is_cond ?_); (first | refine Sy.st_true T (h := ?_) | refine Sy.st_false T (h := ?_)))
    | (with_reducible refine wpList_nil ?_)
    | (with_reducible refine wp_region_lit ?_)
    | (with_reducible refine wp_block ?_)
    | (with_reducible refine wp_skip ?_)
    | (with_reducible refine wp_exit ?_)
    | (with_reducible refine wp_ret ?_)
    | ((with_reducible refine wp_seq_k ?_); intro _ _)
    | (go_at_K; go_step)
    | (simp only [Exit.then, Exit.inBlock, ↓reduceIte, Nat.reduceEqDiff]))
  refine Sy.st_callV0 T F (hc := indexCell _ h hfl hc) (h := ?_); (clear T F; intro ac w T F)
  repeat (first
    | (((with_reducible refine Sy.is_op ?_); refine Sy.st_pure T (h := ?_); clear T; intro ac T))
    | ((with_reducible refine Sy.atK (hK _ _ ?_)))
    | ((with_reducible refine Sy.is_cond ?_); (first | refine Sy.st_true T (h := ?_) | refine Sy.st_false T (h := ?_)))
    | (with_reducible refine wpList_nil ?_)
    | (with_reducible refine wp_region_lit ?_)
    | (with_reducible refine wp_block ?_)
    | (with_reducible refine wp_skip ?_)
    | (with_reducible refine wp_exit ?_)
    | (with_reducible refine wp_ret ?_)
    | ((with_reducible refine wp_seq_k ?_); intro _ _)
    | (go_at_K; go_step)
    | (simp only [Exit.then, Exit.inBlock, ↓reduceIte, Nat.reduceEqDiff]))
  ((try simp only [Exit.inBlock, Exit.then]); refine Sy.st_ret1 T F rfl (by repeat (first | exact Sy.ResV.nil | apply Sy.ResV.tmp rfl | apply Sy.ResV.row rfl rfl rfl (by repeat (first | exact Sy.Take.here | apply Sy.Take.there)) (by rfl) | apply Sy.ResV.one rfl rfl rfl (by repeat (first | exact Sy.Take.here | apply Sy.Take.there)) (by rfl))) ?_)
  exact F.retV _
set_option maxRecDepth 20000 in
theorem risesCell (w : World) {a : Option Addr} {cap : Nat} {l : List CellD} (h : Cels w a l) {f : FuncId} {ks : List Value} {p : CellD → Nat} (hfl : Sy.fl.contains f = true) (hc : ClosN CellR w f ks l p) (least : Nat) :
    Calls Try.prog 87 #[.slice a l.length cap, .int .u64 (least : Int), .func (.func f) #[] ks.toArray] w (RetV w (.bool (risesS p l least))) := by
  have F := Sy.Mem.start (Sub.refl w)
  have hml := h.1
  unfold maxLen at hml
  refine Sy.enter Try.func87 rfl Try.ntmps87 rfl ?_; intro ac T; simp only [Sy.enum, Nat.zero_add, Nat.reduceAdd] at T
  repeat (first
    | (((with_reducible refine Sy.is_load ?_); (first | refine Sy.st_loadOne T F (h := ?_) | refine Sy.st_oldOne T F (h := ?_) | refine Sy.st_loadAll T F (h := ?_) | (refine Sy.st_loadCut T F (h := ?_); conv => whnf) | refine Sy.st_oldAgg T F (h := ?_) | (refine Sy.st_oldCut T F (h := ?_); conv => whnf)); clear T; intro ac T))
    | (((with_reducible refine Sy.is_store ?_); (first | refine Sy.st_storeAll T F (h := ?_) | (refine Sy.st_storeOne T F (h := ?_); conv => whnf) | (refine Sy.st_storeAgg T F (h := ?_); conv => whnf)); clear T F; intro ac w T F))
    | (((with_reducible refine Sy.is_alloc ?_); refine Sy.st_alloc T F (h := ?_); clear T F; intro ac g w T F))
    | (((with_reducible refine Sy.is_op ?_); refine Sy.st_pure T (h := ?_); clear T; intro ac T))
    | ((with_reducible refine Sy.atK (hK _ _ ?_)))
    | ((with_reducible refine Sy.is_cond ?_); (first | refine Sy.st_true T (h := ?_) | refine Sy.st_false T (h := ?_)))
    | (with_reducible refine wpList_nil ?_)
    | (with_reducible refine wp_region_lit ?_)
    | (with_reducible refine wp_block ?_)
    | (with_reducible refine wp_skip ?_)
    | (with_reducible refine wp_exit ?_)
    | (with_reducible refine wp_ret ?_)
    | ((with_reducible refine wp_seq_k ?_); intro _ _)
    | (go_at_K; go_step)
    | (simp only [Exit.then, Exit.inBlock, ↓reduceIte, Nat.reduceEqDiff]))
  refine wp_loop_ghost_k (fun i ac w' => ∃ (k b : Nat), i = l.length - k ∧ k ≤ l.length ∧ risesS p l least = risesS p (l.drop k) b ∧
    Sy.Tm ac 25 [(1, .int .u64 (b : Int)), (2, .func (.func f) #[] ks.toArray), (10, .slice a l.length cap), (11, .int .i64 (l.length : Int)), (12, .int .i64 (k : Int))] ∧ Sy.Mem ⟨w, [], w⟩ w [] w') l.length ?_ ?_
  · exact ⟨0, least, rfl, Nat.zero_le _, rfl, (T.part (by repeat (first | exact Sy.Part.nil | apply Sy.Part.cons rfl))), F⟩
  intro i ac w' hI J K hJ hK
  obtain ⟨k, b, rfl, hk, hn, T, F⟩ := hI
  by_cases hlt : k < l.length
  · have t1 : decide ((k : Int) < (l.length : Int)) = true := decide_eq_true (by omega)
    have t2 : IntKind.i64.wrap ((k : Int) + 1) = ((k + 1 : Nat) : Int) := by rw [i64_wrap (by omega) (by omega)]; omega
    obtain ⟨bb, o, cs, ha, hcl, hat, hr⟩ := rows_get h hlt
    subst ha
    rw [drop_cons hlt] at hn
    have t3 : IntKind.u64.wrap ((p l[k] : Int) + 1) = (((p l[k] + 1) % 18446744073709551616 : Nat) : Int) := by rw [IntKind.wrap_u64]; omega
    have hone : (Value.agg cs.toArray).cells = cs.toArray := rfl
    have h1 : cs.all (·.oneCell') = true := by (have hr2 := hr; obtain ⟨rfl, _⟩ := hr2; rfl)
    repeat (first
    | (((with_reducible refine Sy.is_load ?_); (first | refine Sy.st_loadOne T F (h := ?_) | refine Sy.st_oldOne T F (h := ?_) | refine Sy.st_loadAll T F (h := ?_) | (refine Sy.st_loadCut T F (h := ?_); conv => whnf) | refine Sy.st_oldAgg T F (h := ?_) | (refine Sy.st_oldCut T F (h := ?_); conv => whnf)); clear T; intro ac T))
    | (((with_reducible refine Sy.is_store ?_); (first | refine Sy.st_storeAll T F (h := ?_) | (refine Sy.st_storeOne T F (h := ?_); conv => whnf) | (refine Sy.st_storeAgg T F (h := ?_); conv => whnf)); clear T F; intro ac w T F))
    | (((with_reducible refine Sy.is_alloc ?_); refine Sy.st_alloc T F (h := ?_); clear T F; intro ac g w T F))
    | (((with_reducible refine Sy.is_op ?_); refine Sy.st_pure T (h := ?_); clear T; intro ac T))
    | ((with_reducible refine Sy.atK (hK _ _ ?_)))
    | ((with_reducible refine Sy.is_cond ?_); (first | refine Sy.st_true T (h := ?_) | refine Sy.st_false T (h := ?_)))
    | (with_reducible refine wpList_nil ?_)
    | (with_reducible refine wp_region_lit ?_)
    | (with_reducible refine wp_block ?_)
    | (with_reducible refine wp_skip ?_)
    | (with_reducible refine wp_exit ?_)
    | (with_reducible refine wp_ret ?_)
    | ((with_reducible refine wp_seq_k ?_); intro _ _)
    | (go_at_K; go_step)
    | (simp only [Exit.then, Exit.inBlock, ↓reduceIte, Nat.reduceEqDiff]))
    have hcc := hc _ _ (Sub.refl _) F.sub _ (List.getElem_mem hlt) cs hr
    by_cases hp : p l[k] < b
    · have t4 : decide ((p l[k] : Int) < (b : Int)) = true := decide_eq_true (by omega)
      refine Sy.st_callV (us := []) (ks := ks) T F (by exact rfl) hfl (by exact rfl) (by exact rfl) hcc ?_; (clear T F; intro ac w T F)
      repeat (first
    | (((with_reducible refine Sy.is_load ?_); (first | refine Sy.st_loadOne T F (h := ?_) | refine Sy.st_oldOne T F (h := ?_) | refine Sy.st_loadAll T F (h := ?_) | (refine Sy.st_loadCut T F (h := ?_); conv => whnf) | refine Sy.st_oldAgg T F (h := ?_) | (refine Sy.st_oldCut T F (h := ?_); conv => whnf)); clear T; intro ac T))
    | (((with_reducible refine Sy.is_store ?_); (first | refine Sy.st_storeAll T F (h := ?_) | (refine Sy.st_storeOne T F (h := ?_); conv => whnf) | (refine Sy.st_storeAgg T F (h := ?_); conv => whnf)); clear T F; intro ac w T F))
    | (((with_reducible refine Sy.is_alloc ?_); refine Sy.st_alloc T F (h := ?_); clear T F; intro ac g w T F))
    | (((with_reducible refine Sy.is_op ?_); refine Sy.st_pure T (h := ?_); clear T; intro ac T))
    | ((with_reducible refine Sy.atK (hK _ _ ?_)))
    | ((with_reducible refine Sy.is_cond ?_); (first | refine Sy.st_true T (h := ?_) | refine Sy.st_false T (h := ?_)))
    | (with_reducible refine wpList_nil ?_)
    | (with_reducible refine wp_region_lit ?_)
    | (with_reducible refine wp_block ?_)
    | (with_reducible refine wp_skip ?_)
    | (with_reducible refine wp_exit ?_)
    | (with_reducible refine wp_ret ?_)
    | ((with_reducible refine wp_seq_k ?_); intro _ _)
    | (go_at_K; go_step)
    | (simp only [Exit.then, Exit.inBlock, ↓reduceIte, Nat.reduceEqDiff]))
      ((try simp only [Exit.inBlock, Exit.then]); refine Sy.st_ret1 T F rfl (by repeat (first | exact Sy.ResV.nil | apply Sy.ResV.tmp rfl | apply Sy.ResV.row rfl rfl rfl (by repeat (first | exact Sy.Take.here | apply Sy.Take.there)) (by rfl) | apply Sy.ResV.one rfl rfl rfl (by repeat (first | exact Sy.Take.here | apply Sy.Take.there)) (by rfl))) ?_)
      exact retBb F (by rw [hn, risesS, if_pos hp])
    · have t4 : decide ((p l[k] : Int) < (b : Int)) = false := decide_eq_false (by omega)
      refine Sy.st_callV (us := []) (ks := ks) T F (by exact rfl) hfl (by exact rfl) (by exact rfl) hcc ?_; (clear T F; intro ac w T F)
      repeat (first
    | (((with_reducible refine Sy.is_load ?_); (first | refine Sy.st_loadOne T F (h := ?_) | refine Sy.st_oldOne T F (h := ?_) | refine Sy.st_loadAll T F (h := ?_) | (refine Sy.st_loadCut T F (h := ?_); conv => whnf) | refine Sy.st_oldAgg T F (h := ?_) | (refine Sy.st_oldCut T F (h := ?_); conv => whnf)); clear T; intro ac T))
    | (((with_reducible refine Sy.is_store ?_); (first | refine Sy.st_storeAll T F (h := ?_) | (refine Sy.st_storeOne T F (h := ?_); conv => whnf) | (refine Sy.st_storeAgg T F (h := ?_); conv => whnf)); clear T F; intro ac w T F))
    | (((with_reducible refine Sy.is_alloc ?_); refine Sy.st_alloc T F (h := ?_); clear T F; intro ac g w T F))
    | (((with_reducible refine Sy.is_op ?_); refine Sy.st_pure T (h := ?_); clear T; intro ac T))
    | ((with_reducible refine Sy.atK (hK _ _ ?_)))
    | ((with_reducible refine Sy.is_cond ?_); (first | refine Sy.st_true T (h := ?_) | refine Sy.st_false T (h := ?_)))
    | (with_reducible refine wpList_nil ?_)
    | (with_reducible refine wp_region_lit ?_)
    | (with_reducible refine wp_block ?_)
    | (with_reducible refine wp_skip ?_)
    | (with_reducible refine wp_exit ?_)
    | (with_reducible refine wp_ret ?_)
    | ((with_reducible refine wp_seq_k ?_); intro _ _)
    | (go_at_K; go_step)
    | (simp only [Exit.then, Exit.inBlock, ↓reduceIte, Nat.reduceEqDiff]))
      exact Sy.handed hJ (k := l.length - (k + 1)) (by omega) ⟨k + 1, _, rfl, by omega, by rw [hn, risesS, if_neg hp], (T.part (by repeat (first | exact Sy.Part.nil | apply Sy.Part.cons rfl))), (F.sel (by repeat (first | exact Sy.Sel.nil | apply Sy.Sel.cons (by repeat (first | exact Sy.Take.here | apply Sy.Take.there)))))⟩
  · obtain rfl : k = l.length := by omega
    have t1 : decide ((l.length : Int) < (l.length : Int)) = false := decide_eq_false (by omega)
    repeat (first
    | (((with_reducible refine Sy.is_load ?_); (first | refine Sy.st_loadOne T F (h := ?_) | refine Sy.st_oldOne T F (h := ?_) | refine Sy.st_loadAll T F (h := ?_) | (refine Sy.st_loadCut T F (h := ?_); conv => whnf) | refine Sy.st_oldAgg T F (h := ?_) | (refine Sy.st_oldCut T F (h := ?_); conv => whnf)); clear T; intro ac T))
    | (((with_reducible refine Sy.is_store ?_); (first | refine Sy.st_storeAll T F (h := ?_) | (refine Sy.st_storeOne T F (h := ?_); conv => whnf) | (refine Sy.st_storeAgg T F (h := ?_); conv => whnf)); clear T F; intro ac w T F))
    | (((with_reducible refine Sy.is_alloc ?_); refine Sy.st_alloc T F (h := ?_); clear T F; intro ac g w T F))
    | (((with_reducible refine Sy.is_op ?_); refine Sy.st_pure T (h := ?_); clear T; intro ac T))
    | ((with_reducible refine Sy.atK (hK _ _ ?_)))
    | ((with_reducible refine Sy.is_cond ?_); (first | refine Sy.st_true T (h := ?_) | refine Sy.st_false T (h := ?_)))
    | (with_reducible refine wpList_nil ?_)
    | (with_reducible refine wp_region_lit ?_)
    | (with_reducible refine wp_block ?_)
    | (with_reducible refine wp_skip ?_)
    | (with_reducible refine wp_exit ?_)
    | (with_reducible refine wp_ret ?_)
    | ((with_reducible refine wp_seq_k ?_); intro _ _)
    | (go_at_K; go_step)
    | (simp only [Exit.then, Exit.inBlock, ↓reduceIte, Nat.reduceEqDiff]))
    ((try simp only [Exit.inBlock, Exit.then]); refine Sy.st_ret1 T F rfl (by repeat (first | exact Sy.ResV.nil | apply Sy.ResV.tmp rfl | apply Sy.ResV.row rfl rfl rfl (by repeat (first | exact Sy.Take.here | apply Sy.Take.there)) (by rfl) | apply Sy.ResV.one rfl rfl rfl (by repeat (first | exact Sy.Take.here | apply Sy.Take.there)) (by rfl))) ?_)
    exact retBb F (by rw [hn, List.drop_length]; rfl)

set_option maxRecDepth 20000 in
theorem indexMark (w : World) {a : Option Addr} {cap : Nat} {l : List MarkD} (h : Marks w a l) {f : FuncId} {ks : List Value} {p : MarkD → Bool} (hfl : Sy.fl.contains f = true) (hc : ClosB MarkR w f ks l p) :
    Calls Try.prog 96 #[.slice a l.length cap, .func (.func f) #[] ks.toArray] w (RetV w (.int .i64 (idxS p l))) := by
  have F := Sy.Mem.start (Sub.refl w)
  have hml := h.1
  unfold maxLen at hml
  refine Sy.enter Try.func96 rfl Try.ntmps96 rfl ?_; intro ac T; simp only [Sy.enum, Nat.zero_add, Nat.reduceAdd] at T
  repeat (first
    | (((with_reducible refine Sy.is_load ?_); (first | refine Sy.st_loadOne T F (h := ?_) | refine Sy.st_oldOne T F (h := ?_) | refine Sy.st_loadAll T F (h := ?_) | (refine Sy.st_loadCut T F (h := ?_); conv => whnf) | refine Sy.st_oldAgg T F (h := ?_) | (refine Sy.st_oldCut T F (h := ?_); conv => whnf)); clear T; intro ac T))
    | (((with_reducible refine Sy.is_op ?_); refine Sy.st_pure T (h := ?_); clear T; intro ac T))
    | ((with_reducible refine Sy.atK (hK _ _ ?_)))
    | ((with_reducible refine Sy.is_cond ?_); (first | refine Sy.st_true T (h := ?_) | refine Sy.st_false T (h := ?_)))
    | (with_reducible refine wpList_nil ?_)
    | (with_reducible refine wp_region_lit ?_)
    | (with_reducible refine wp_block ?_)
    | (with_reducible refine wp_skip ?_)
    | (with_reducible refine wp_exit ?_)
    | (with_reducible refine wp_ret ?_)
    | ((with_reducible refine wp_seq_k ?_); intro _ _)
    | (go_at_K; go_step)
    | (simp only [Exit.then, Exit.inBlock, ↓reduceIte, Nat.reduceEqDiff]))
  refine wp_loop_ghost_k (fun i ac w' => ∃ (k : Nat), i = l.length - k ∧ k ≤ l.length ∧ (l.take k).any p = false ∧
    Sy.Tm ac 19 [(0, .slice a l.length cap), (1, .func (.func f) #[] ks.toArray), (7, .int .i64 (l.length : Int)), (8, .int .i64 (k : Int))] ∧ Sy.Mem ⟨w, [], w⟩ w [] w') l.length ?_ ?_
  · exact ⟨0, rfl, Nat.zero_le _, rfl, (T.part (by repeat (first | exact Sy.Part.nil | apply Sy.Part.cons rfl))), F⟩
  intro i ac w' hI J K hJ hK
  obtain ⟨k, rfl, hk, hn, T, F⟩ := hI
  by_cases hlt : k < l.length
  · have t1 : decide ((k : Int) < (l.length : Int)) = true := decide_eq_true (by omega)
    have t2 : IntKind.i64.wrap ((k : Int) + 1) = ((k + 1 : Nat) : Int) := by rw [i64_wrap (by omega) (by omega)]; omega
    obtain ⟨b, o, cs, ha, hcl, hat, hr⟩ := rows_get h hlt
    subst ha
    repeat (first
    | (((with_reducible refine Sy.is_load ?_); (first | refine Sy.st_loadOne T F (h := ?_) | refine Sy.st_oldOne T F (h := ?_) | refine Sy.st_loadAll T F (h := ?_) | (refine Sy.st_loadCut T F (h := ?_); conv => whnf) | refine Sy.st_oldAgg T F (h := ?_) | (refine Sy.st_oldCut T F (h := ?_); conv => whnf)); clear T; intro ac T))
    | (((with_reducible refine Sy.is_op ?_); refine Sy.st_pure T (h := ?_); clear T; intro ac T))
    | ((with_reducible refine Sy.atK (hK _ _ ?_)))
    | ((with_reducible refine Sy.is_cond ?_); (first | refine Sy.st_true T (h := ?_) | refine Sy.st_false T (h := ?_)))
    | (with_reducible refine wpList_nil ?_)
    | (with_reducible refine wp_region_lit ?_)
    | (with_reducible refine wp_block ?_)
    | (with_reducible refine wp_skip ?_)
    | (with_reducible refine wp_exit ?_)
    | (with_reducible refine wp_ret ?_)
    | ((with_reducible refine wp_seq_k ?_); intro _ _)
    | (go_at_K; go_step)
    | (simp only [Exit.then, Exit.inBlock, ↓reduceIte, Nat.reduceEqDiff]))
    have hcc := hc _ _ (Sub.refl _) F.sub _ (List.getElem_mem hlt) cs hr
    cases hp : p l[k]
    · rw [hp] at hcc
      refine Sy.st_callV (us := []) (ks := ks) T F (by exact rfl) hfl (by exact rfl) (by exact rfl) hcc ?_; (clear T F; intro ac w T F)
      repeat (first
    | (((with_reducible refine Sy.is_load ?_); (first | refine Sy.st_loadOne T F (h := ?_) | refine Sy.st_oldOne T F (h := ?_) | refine Sy.st_loadAll T F (h := ?_) | (refine Sy.st_loadCut T F (h := ?_); conv => whnf) | refine Sy.st_oldAgg T F (h := ?_) | (refine Sy.st_oldCut T F (h := ?_); conv => whnf)); clear T; intro ac T))
    | (((with_reducible refine Sy.is_op ?_); refine Sy.st_pure T (h := ?_); clear T; intro ac T))
    | ((with_reducible refine Sy.atK (hK _ _ ?_)))
    | ((with_reducible refine Sy.is_cond ?_); (first | refine Sy.st_true T (h := ?_) | refine Sy.st_false T (h := ?_)))
    | (with_reducible refine wpList_nil ?_)
    | (with_reducible refine wp_region_lit ?_)
    | (with_reducible refine wp_block ?_)
    | (with_reducible refine wp_skip ?_)
    | (with_reducible refine wp_exit ?_)
    | (with_reducible refine wp_ret ?_)
    | ((with_reducible refine wp_seq_k ?_); intro _ _)
    | (go_at_K; go_step)
    | (simp only [Exit.then, Exit.inBlock, ↓reduceIte, Nat.reduceEqDiff]))
      exact Sy.handed hJ (k := l.length - (k + 1)) (by omega) ⟨k + 1, rfl, by omega, any_up hlt hn hp, (T.part (by repeat (first | exact Sy.Part.nil | apply Sy.Part.cons rfl))), F⟩
    · rw [hp] at hcc
      refine Sy.st_callV (us := []) (ks := ks) T F (by exact rfl) hfl (by exact rfl) (by exact rfl) hcc ?_; (clear T F; intro ac w T F)
      repeat (first
    | (((with_reducible refine Sy.is_load ?_); (first | refine Sy.st_loadOne T F (h := ?_) | refine Sy.st_oldOne T F (h := ?_) | refine Sy.st_loadAll T F (h := ?_) | (refine Sy.st_loadCut T F (h := ?_); conv => whnf) | refine Sy.st_oldAgg T F (h := ?_) | (refine Sy.st_oldCut T F (h := ?_); conv => whnf)); clear T; intro ac T))
    | (((with_reducible refine Sy.is_op ?_); refine Sy.st_pure T (h := ?_); clear T; intro ac T))
    | ((with_reducible refine Sy.atK (hK _ _ ?_)))
    | ((with_reducible refine Sy.is_cond ?_); (first | refine Sy.st_true T (h := ?_) | refine Sy.st_false T (h := ?_)))
    | (with_reducible refine wpList_nil ?_)
    | (with_reducible refine wp_region_lit ?_)
    | (with_reducible refine wp_block ?_)
    | (with_reducible refine wp_skip ?_)
    | (with_reducible refine wp_exit ?_)
    | (with_reducible refine wp_ret ?_)
    | ((with_reducible refine wp_seq_k ?_); intro _ _)
    | (go_at_K; go_step)
    | (simp only [Exit.then, Exit.inBlock, ↓reduceIte, Nat.reduceEqDiff]))
      ((try simp only [Exit.inBlock, Exit.then]); refine Sy.st_ret1 T F rfl (by repeat (first | exact Sy.ResV.nil | apply Sy.ResV.tmp rfl | apply Sy.ResV.row rfl rfl rfl (by repeat (first | exact Sy.Take.here | apply Sy.Take.there)) (by rfl) | apply Sy.ResV.one rfl rfl rfl (by repeat (first | exact Sy.Take.here | apply Sy.Take.there)) (by rfl))) ?_)
      rw [idx_some hlt hn hp]
      exact F.retV _
  · obtain rfl : k = l.length := by omega
    have t1 : decide ((l.length : Int) < (l.length : Int)) = false := decide_eq_false (by omega)
    rw [List.take_length] at hn
    repeat (first
    | (((with_reducible refine Sy.is_load ?_); (first | refine Sy.st_loadOne T F (h := ?_) | refine Sy.st_oldOne T F (h := ?_) | refine Sy.st_loadAll T F (h := ?_) | (refine Sy.st_loadCut T F (h := ?_); conv => whnf) | refine Sy.st_oldAgg T F (h := ?_) | (refine Sy.st_oldCut T F (h := ?_); conv => whnf)); clear T; intro ac T))
    | (((with_reducible refine Sy.is_op ?_); refine Sy.st_pure T (h := ?_); clear T; intro ac T))
    | ((with_reducible refine Sy.atK (hK _ _ ?_)))
    | ((with_reducible refine Sy.is_cond ?_); (first | refine Sy.st_true T (h := ?_) | refine Sy.st_false T (h := ?_)))
    | (with_reducible refine wpList_nil ?_)
    | (with_reducible refine wp_region_lit ?_)
    | (with_reducible refine wp_block ?_)
    | (with_reducible refine wp_skip ?_)
    | (with_reducible refine wp_exit ?_)
    | (with_reducible refine wp_ret ?_)
    | ((with_reducible refine wp_seq_k ?_); intro _ _)
    | (go_at_K; go_step)
    | (simp only [Exit.then, Exit.inBlock, ↓reduceIte, Nat.reduceEqDiff]))
    ((try simp only [Exit.inBlock, Exit.then]); refine Sy.st_ret1 T F rfl (by repeat (first | exact Sy.ResV.nil | apply Sy.ResV.tmp rfl | apply Sy.ResV.row rfl rfl rfl (by repeat (first | exact Sy.Take.here | apply Sy.Take.there)) (by rfl) | apply Sy.ResV.one rfl rfl rfl (by repeat (first | exact Sy.Take.here | apply Sy.Take.there)) (by rfl))) ?_)
    rw [idx_none hn]
    exact F.retV _
set_option maxRecDepth 20000 in
theorem containsMark (w : World) {a : Option Addr} {cap : Nat} {l : List MarkD} (h : Marks w a l) {f : FuncId} {ks : List Value} {p : MarkD → Bool} (hfl : Sy.fl.contains f = true) (hc : ClosB MarkR w f ks l p) :
    Calls Try.prog 89 #[.slice a l.length cap, .func (.func f) #[] ks.toArray] w (RetV w (.bool (l.any p))) := by
  have F := Sy.Mem.start (Sub.refl w)
  have t1 : decide (idxS p l ≥ 0) = l.any p := idx_any p l
  refine Sy.enter Try.func89 rfl Try.ntmps89 rfl ?_; intro ac T; simp only [Sy.enum, Nat.zero_add, Nat.reduceAdd] at T
  repeat (first
    | (((with_reducible refine Sy.is_op ?_); refine Sy.st_pure T (h := ?_); clear T; intro ac T))
    | ((with_reducible refine Sy.atK (hK _ _ ?_)))
    | ((with_reducible refine Sy.is_cond ?_); (first | refine Sy.st_true T (h := ?_) | refine Sy.st_false T (h := ?_)))
    | (with_reducible refine wpList_nil ?_)
    | (with_reducible refine wp_region_lit ?_)
    | (with_reducible refine wp_block ?_)
    | (with_reducible refine wp_skip ?_)
    | (with_reducible refine wp_exit ?_)
    | (with_reducible refine wp_ret ?_)
    | ((with_reducible refine wp_seq_k ?_); intro _ _)
    | (go_at_K; go_step)
    | (simp only [Exit.then, Exit.inBlock, ↓reduceIte, Nat.reduceEqDiff]))
  refine Sy.st_callV0 T F (hc := indexMark _ h hfl hc) (h := ?_); (clear T F; intro ac w T F)
  repeat (first
    | (((with_reducible refine Sy.is_op ?_); refine Sy.st_pure T (h := ?_); clear T; intro ac T))
    | ((with_reducible refine Sy.atK (hK _ _ ?_)))
    | ((with_reducible refine Sy.is_cond ?_); (first | refine Sy.st_true T (h := ?_) | refine Sy.st_false T (h := ?_)))
    | (with_reducible refine wpList_nil ?_)
    | (with_reducible refine wp_region_lit ?_)
    | (with_reducible refine wp_block ?_)
    | (with_reducible refine wp_skip ?_)
    | (with_reducible refine wp_exit ?_)
    | (with_reducible refine wp_ret ?_)
    | ((with_reducible refine wp_seq_k ?_); intro _ _)
    | (go_at_K; go_step)
    | (simp only [Exit.then, Exit.inBlock, ↓reduceIte, Nat.reduceEqDiff]))
  ((try simp only [Exit.inBlock, Exit.then]); refine Sy.st_ret1 T F rfl (by repeat (first | exact Sy.ResV.nil | apply Sy.ResV.tmp rfl | apply Sy.ResV.row rfl rfl rfl (by repeat (first | exact Sy.Take.here | apply Sy.Take.there)) (by rfl) | apply Sy.ResV.one rfl rfl rfl (by repeat (first | exact Sy.Take.here | apply Sy.Take.there)) (by rfl))) ?_)
  exact F.retV _
set_option maxRecDepth 20000 in
theorem risesMark (w : World) {a : Option Addr} {cap : Nat} {l : List MarkD} (h : Marks w a l) {f : FuncId} {ks : List Value} {p : MarkD → Nat} (hfl : Sy.fl.contains f = true) (hc : ClosN MarkR w f ks l p) (least : Nat) :
    Calls Try.prog 91 #[.slice a l.length cap, .int .u64 (least : Int), .func (.func f) #[] ks.toArray] w (RetV w (.bool (risesS p l least))) := by
  have F := Sy.Mem.start (Sub.refl w)
  have hml := h.1
  unfold maxLen at hml
  refine Sy.enter Try.func91 rfl Try.ntmps91 rfl ?_; intro ac T; simp only [Sy.enum, Nat.zero_add, Nat.reduceAdd] at T
  repeat (first
    | (((with_reducible refine Sy.is_load ?_); (first | refine Sy.st_loadOne T F (h := ?_) | refine Sy.st_oldOne T F (h := ?_) | refine Sy.st_loadAll T F (h := ?_) | (refine Sy.st_loadCut T F (h := ?_); conv => whnf) | refine Sy.st_oldAgg T F (h := ?_) | (refine Sy.st_oldCut T F (h := ?_); conv => whnf)); clear T; intro ac T))
    | (((with_reducible refine Sy.is_store ?_); (first | refine Sy.st_storeAll T F (h := ?_) | (refine Sy.st_storeOne T F (h := ?_); conv => whnf) | (refine Sy.st_storeAgg T F (h := ?_); conv => whnf)); clear T F; intro ac w T F))
    | (((with_reducible refine Sy.is_alloc ?_); refine Sy.st_alloc T F (h := ?_); clear T F; intro ac g w T F))
    | (((with_reducible refine Sy.is_op ?_); refine Sy.st_pure T (h := ?_); clear T; intro ac T))
    | ((with_reducible refine Sy.atK (hK _ _ ?_)))
    | ((with_reducible refine Sy.is_cond ?_); (first | refine Sy.st_true T (h := ?_) | refine Sy.st_false T (h := ?_)))
    | (with_reducible refine wpList_nil ?_)
    | (with_reducible refine wp_region_lit ?_)
    | (with_reducible refine wp_block ?_)
    | (with_reducible refine wp_skip ?_)
    | (with_reducible refine wp_exit ?_)
    | (with_reducible refine wp_ret ?_)
    | ((with_reducible refine wp_seq_k ?_); intro _ _)
    | (go_at_K; go_step)
    | (simp only [Exit.then, Exit.inBlock, ↓reduceIte, Nat.reduceEqDiff]))
  refine wp_loop_ghost_k (fun i ac w' => ∃ (k b : Nat), i = l.length - k ∧ k ≤ l.length ∧ risesS p l least = risesS p (l.drop k) b ∧
    Sy.Tm ac 25 [(1, .int .u64 (b : Int)), (2, .func (.func f) #[] ks.toArray), (10, .slice a l.length cap), (11, .int .i64 (l.length : Int)), (12, .int .i64 (k : Int))] ∧ Sy.Mem ⟨w, [], w⟩ w [] w') l.length ?_ ?_
  · exact ⟨0, least, rfl, Nat.zero_le _, rfl, (T.part (by repeat (first | exact Sy.Part.nil | apply Sy.Part.cons rfl))), F⟩
  intro i ac w' hI J K hJ hK
  obtain ⟨k, b, rfl, hk, hn, T, F⟩ := hI
  by_cases hlt : k < l.length
  · have t1 : decide ((k : Int) < (l.length : Int)) = true := decide_eq_true (by omega)
    have t2 : IntKind.i64.wrap ((k : Int) + 1) = ((k + 1 : Nat) : Int) := by rw [i64_wrap (by omega) (by omega)]; omega
    obtain ⟨bb, o, cs, ha, hcl, hat, hr⟩ := rows_get h hlt
    subst ha
    rw [drop_cons hlt] at hn
    have t3 : IntKind.u64.wrap ((p l[k] : Int) + 1) = (((p l[k] + 1) % 18446744073709551616 : Nat) : Int) := by rw [IntKind.wrap_u64]; omega
    have hone : (Value.agg cs.toArray).cells = cs.toArray := rfl
    have h1 : cs.all (·.oneCell') = true := by (have hr2 := hr; obtain ⟨rfl, _⟩ := hr2; rfl)
    repeat (first
    | (((with_reducible refine Sy.is_load ?_); (first | refine Sy.st_loadOne T F (h := ?_) | refine Sy.st_oldOne T F (h := ?_) | refine Sy.st_loadAll T F (h := ?_) | (refine Sy.st_loadCut T F (h := ?_); conv => whnf) | refine Sy.st_oldAgg T F (h := ?_) | (refine Sy.st_oldCut T F (h := ?_); conv => whnf)); clear T; intro ac T))
    | (((with_reducible refine Sy.is_store ?_); (first | refine Sy.st_storeAll T F (h := ?_) | (refine Sy.st_storeOne T F (h := ?_); conv => whnf) | (refine Sy.st_storeAgg T F (h := ?_); conv => whnf)); clear T F; intro ac w T F))
    | (((with_reducible refine Sy.is_alloc ?_); refine Sy.st_alloc T F (h := ?_); clear T F; intro ac g w T F))
    | (((with_reducible refine Sy.is_op ?_); refine Sy.st_pure T (h := ?_); clear T; intro ac T))
    | ((with_reducible refine Sy.atK (hK _ _ ?_)))
    | ((with_reducible refine Sy.is_cond ?_); (first | refine Sy.st_true T (h := ?_) | refine Sy.st_false T (h := ?_)))
    | (with_reducible refine wpList_nil ?_)
    | (with_reducible refine wp_region_lit ?_)
    | (with_reducible refine wp_block ?_)
    | (with_reducible refine wp_skip ?_)
    | (with_reducible refine wp_exit ?_)
    | (with_reducible refine wp_ret ?_)
    | ((with_reducible refine wp_seq_k ?_); intro _ _)
    | (go_at_K; go_step)
    | (simp only [Exit.then, Exit.inBlock, ↓reduceIte, Nat.reduceEqDiff]))
    have hcc := hc _ _ (Sub.refl _) F.sub _ (List.getElem_mem hlt) cs hr
    by_cases hp : p l[k] < b
    · have t4 : decide ((p l[k] : Int) < (b : Int)) = true := decide_eq_true (by omega)
      refine Sy.st_callV (us := []) (ks := ks) T F (by exact rfl) hfl (by exact rfl) (by exact rfl) hcc ?_; (clear T F; intro ac w T F)
      repeat (first
    | (((with_reducible refine Sy.is_load ?_); (first | refine Sy.st_loadOne T F (h := ?_) | refine Sy.st_oldOne T F (h := ?_) | refine Sy.st_loadAll T F (h := ?_) | (refine Sy.st_loadCut T F (h := ?_); conv => whnf) | refine Sy.st_oldAgg T F (h := ?_) | (refine Sy.st_oldCut T F (h := ?_); conv => whnf)); clear T; intro ac T))
    | (((with_reducible refine Sy.is_store ?_); (first | refine Sy.st_storeAll T F (h := ?_) | (refine Sy.st_storeOne T F (h := ?_); conv => whnf) | (refine Sy.st_storeAgg T F (h := ?_); conv => whnf)); clear T F; intro ac w T F))
    | (((with_reducible refine Sy.is_alloc ?_); refine Sy.st_alloc T F (h := ?_); clear T F; intro ac g w T F))
    | (((with_reducible refine Sy.is_op ?_); refine Sy.st_pure T (h := ?_); clear T; intro ac T))
    | ((with_reducible refine Sy.atK (hK _ _ ?_)))
    | ((with_reducible refine Sy.is_cond ?_); (first | refine Sy.st_true T (h := ?_) | refine Sy.st_false T (h := ?_)))
    | (with_reducible refine wpList_nil ?_)
    | (with_reducible refine wp_region_lit ?_)
    | (with_reducible refine wp_block ?_)
    | (with_reducible refine wp_skip ?_)
    | (with_reducible refine wp_exit ?_)
    | (with_reducible refine wp_ret ?_)
    | ((with_reducible refine wp_seq_k ?_); intro _ _)
    | (go_at_K; go_step)
    | (simp only [Exit.then, Exit.inBlock, ↓reduceIte, Nat.reduceEqDiff]))
      ((try simp only [Exit.inBlock, Exit.then]); refine Sy.st_ret1 T F rfl (by repeat (first | exact Sy.ResV.nil | apply Sy.ResV.tmp rfl | apply Sy.ResV.row rfl rfl rfl (by repeat (first | exact Sy.Take.here | apply Sy.Take.there)) (by rfl) | apply Sy.ResV.one rfl rfl rfl (by repeat (first | exact Sy.Take.here | apply Sy.Take.there)) (by rfl))) ?_)
      exact retBb F (by rw [hn, risesS, if_pos hp])
    · have t4 : decide ((p l[k] : Int) < (b : Int)) = false := decide_eq_false (by omega)
      refine Sy.st_callV (us := []) (ks := ks) T F (by exact rfl) hfl (by exact rfl) (by exact rfl) hcc ?_; (clear T F; intro ac w T F)
      repeat (first
    | (((with_reducible refine Sy.is_load ?_); (first | refine Sy.st_loadOne T F (h := ?_) | refine Sy.st_oldOne T F (h := ?_) | refine Sy.st_loadAll T F (h := ?_) | (refine Sy.st_loadCut T F (h := ?_); conv => whnf) | refine Sy.st_oldAgg T F (h := ?_) | (refine Sy.st_oldCut T F (h := ?_); conv => whnf)); clear T; intro ac T))
    | (((with_reducible refine Sy.is_store ?_); (first | refine Sy.st_storeAll T F (h := ?_) | (refine Sy.st_storeOne T F (h := ?_); conv => whnf) | (refine Sy.st_storeAgg T F (h := ?_); conv => whnf)); clear T F; intro ac w T F))
    | (((with_reducible refine Sy.is_alloc ?_); refine Sy.st_alloc T F (h := ?_); clear T F; intro ac g w T F))
    | (((with_reducible refine Sy.is_op ?_); refine Sy.st_pure T (h := ?_); clear T; intro ac T))
    | ((with_reducible refine Sy.atK (hK _ _ ?_)))
    | ((with_reducible refine Sy.is_cond ?_); (first | refine Sy.st_true T (h := ?_) | refine Sy.st_false T (h := ?_)))
    | (with_reducible refine wpList_nil ?_)
    | (with_reducible refine wp_region_lit ?_)
    | (with_reducible refine wp_block ?_)
    | (with_reducible refine wp_skip ?_)
    | (with_reducible refine wp_exit ?_)
    | (with_reducible refine wp_ret ?_)
    | ((with_reducible refine wp_seq_k ?_); intro _ _)
    | (go_at_K; go_step)
    | (simp only [Exit.then, Exit.inBlock, ↓reduceIte, Nat.reduceEqDiff]))
      exact Sy.handed hJ (k := l.length - (k + 1)) (by omega) ⟨k + 1, _, rfl, by omega, by rw [hn, risesS, if_neg hp], (T.part (by repeat (first | exact Sy.Part.nil | apply Sy.Part.cons rfl))), (F.sel (by repeat (first | exact Sy.Sel.nil | apply Sy.Sel.cons (by repeat (first | exact Sy.Take.here | apply Sy.Take.there)))))⟩
  · obtain rfl : k = l.length := by omega
    have t1 : decide ((l.length : Int) < (l.length : Int)) = false := decide_eq_false (by omega)
    repeat (first
    | (((with_reducible refine Sy.is_load ?_); (first | refine Sy.st_loadOne T F (h := ?_) | refine Sy.st_oldOne T F (h := ?_) | refine Sy.st_loadAll T F (h := ?_) | (refine Sy.st_loadCut T F (h := ?_); conv => whnf) | refine Sy.st_oldAgg T F (h := ?_) | (refine Sy.st_oldCut T F (h := ?_); conv => whnf)); clear T; intro ac T))
    | (((with_reducible refine Sy.is_store ?_); (first | refine Sy.st_storeAll T F (h := ?_) | (refine Sy.st_storeOne T F (h := ?_); conv => whnf) | (refine Sy.st_storeAgg T F (h := ?_); conv => whnf)); clear T F; intro ac w T F))
    | (((with_reducible refine Sy.is_alloc ?_); refine Sy.st_alloc T F (h := ?_); clear T F; intro ac g w T F))
    | (((with_reducible refine Sy.is_op ?_); refine Sy.st_pure T (h := ?_); clear T; intro ac T))
    | ((with_reducible refine Sy.atK (hK _ _ ?_)))
    | ((with_reducible refine Sy.is_cond ?_); (first | refine Sy.st_true T (h := ?_) | refine Sy.st_false T (h := ?_)))
    | (with_reducible refine wpList_nil ?_)
    | (with_reducible refine wp_region_lit ?_)
    | (with_reducible refine wp_block ?_)
    | (with_reducible refine wp_skip ?_)
    | (with_reducible refine wp_exit ?_)
    | (with_reducible refine wp_ret ?_)
    | ((with_reducible refine wp_seq_k ?_); intro _ _)
    | (go_at_K; go_step)
    | (simp only [Exit.then, Exit.inBlock, ↓reduceIte, Nat.reduceEqDiff]))
    ((try simp only [Exit.inBlock, Exit.then]); refine Sy.st_ret1 T F rfl (by repeat (first | exact Sy.ResV.nil | apply Sy.ResV.tmp rfl | apply Sy.ResV.row rfl rfl rfl (by repeat (first | exact Sy.Take.here | apply Sy.Take.there)) (by rfl) | apply Sy.ResV.one rfl rfl rfl (by repeat (first | exact Sy.Take.here | apply Sy.Take.there)) (by rfl))) ?_)
    exact retBb F (by rw [hn, List.drop_length]; rfl)
end Rg
end Go.Proofs.Ytiaogfjmhpkcmaa
