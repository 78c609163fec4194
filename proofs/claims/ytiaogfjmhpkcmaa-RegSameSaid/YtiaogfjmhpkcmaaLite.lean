/- Small contracts and facts that the later texts share. Conditions: the registers can be read; a register that is cloned is short. -/
import Derived.Test.YtiaogfjmhpkcmaaSyR
import Derived.Test.YtiaogfjmhpkcmaaCloF
import Derived.Test.YtiaogfjmhpkcmaaEqD
namespace Go.Proofs.Ytiaogfjmhpkcmaa
open Go.RowKit
set_option linter.unusedVariables false
set_option linter.unusedSimpArgs false
namespace Sy
/-- memory that stands still: what did before, and what a call made -/
def join (m w' : World) (B : Nat) : World := { w' with heap := ((List.range w'.heap.size).map fun i => if i < B then (m.heap[i]?).getD (.cells #[] 0 (0, 0)) else (w'.heap[i]?).getD (.cells #[] 0 (0, 0))).toArray }
theorem join_heap (m w' : World) (B i : Nat) (h : i < w'.heap.size) : (join m w' B).heap[i]? = some (if i < B then (m.heap[i]?).getD (.cells #[] 0 (0, 0)) else (w'.heap[i]?).getD (.cells #[] 0 (0, 0))) := by
  simp [join, h]
theorem retM_of_own {m w w' : World} (hs : Sub m w) (hb : Below w.heap.size w w') :
    ∃ m', Sub m m' ∧ Sub m' w' ∧ (∀ p u, p.block < w.heap.size → m'.cell? p = some u → m.cell? p = some u) ∧ ∀ b, w.heap.size ≤ b → b < w'.heap.size → m'.heap[b]? = w'.heap[b]? := by
  have hlow : ∀ p : Addr, p.block < w.heap.size → (join m w' w.heap.size).cell? p = m.cell? p := by
    intro p hp
    have := join_heap m w' w.heap.size p.block (Nat.lt_of_lt_of_le hp hb.size)
    rw [if_pos hp] at this
    unfold World.cell?
    rw [this]
    cases hm : m.heap[p.block]? with
    | none => simp
    | some o => simp
  have hhigh : ∀ b, w.heap.size ≤ b → b < w'.heap.size → (join m w' w.heap.size).heap[b]? = w'.heap[b]? := by
    intro b h1 h2
    rw [join_heap m w' w.heap.size b h2, if_neg (by omega)]
    simp [h2]
  refine ⟨join m w' w.heap.size, fun p v e => ?_, fun p v e => ?_, fun p u hp e => by rw [← hlow p hp]; exact e, hhigh⟩
  · rw [hlow p (World.block_lt_of_cell? w _ (hs p v e))]; exact e
  · by_cases hp : p.block < w.heap.size
    · rw [hlow p hp] at e
      exact sub_below hb p v (hs p v e)
    · have hlt := World.block_lt_of_cell? _ _ e
      have hsz : (join m w' w.heap.size).heap.size = w'.heap.size := by simp [join]
      rw [hsz] at hlt
      rw [World.cell?_of_block (w := w') (hhigh p.block (by omega) hlt)] at e
      exact e
end Sy
namespace Rg
open Sy (RetV RetM Sub)
/-- a register that has come back, wherever its lists lie -/
def RegV (r : RegD) (m : World) (v : Value) : Prop := ∃ q, v = .agg (regCs r q).toArray ∧ RegAt m r q
theorem cloneM {w m : World} (hs : Sub m w) {r : RegD} {p : RegA} (h : RegAt m r p) (hg : greatS r = false) : Calls Try.prog 24 #[.agg (regCs r p).toArray] w (RetM m w (RegV r)) :=
  (regClone_any w r p (h.sub hs) hg).mono fun e w' ⟨⟨q, he, ho⟩, hb⟩ => by
    obtain ⟨m', h1, h2, h3, h4⟩ := Sy.retM_of_own hs hb
    exact ⟨_, m', he, hb, h1, h2, h3, q, rfl, (ho.from (w' := m') h4).reg⟩
theorem sameM {w m : World} (hs : Sub m w) {x y : RegD} {p q : RegA} (h : RegAt m x p) (h' : RegAt m y q) {b : Bool} (hb : decide (x = y) = b) : Calls Try.prog 26 #[.agg (regCs x p).toArray, .agg (regCs y q).toArray] w (RetV w (.bool b)) := by
  rw [← hb]; exact sameC_any w x y p q (h.sub hs) (h'.sub hs)
theorem rsameM {w m : World} (hs : Sub m w) {x y : RegD} {p q : RegA} (h : RegAt m x p) (h' : RegAt m y q) {b : Bool} (hb : decide (x = y) = b) : Calls Try.prog 25 #[.agg (regCs x p).toArray, .agg (regCs y q).toArray] w (RetV w (.bool b)) := by
  rw [← hb]; exact same_any w x y p q (h.sub hs) (h'.sub hs)
theorem i64_wrap {a : Int} (h1 : -9223372036854775808 ≤ a) (h2 : a ≤ 9223372036854775807) : IntKind.i64.wrap a = a := by
  unfold IntKind.wrap
  simp [IntKind.bits, IntKind.signed]
  omega
theorem eqF {a b : Int} (h : a ≠ b) : (a == b) = false := by rw [beq_eq_false_iff_ne]; exact h
theorem eqT {a b : Int} (h : a = b) : (a == b) = true := by rw [beq_iff_eq]; exact h
theorem greatM {w m : World} (hs : Sub m w) {r : RegD} {p : RegA} (h : RegAt m r p) {b : Bool} (hb : greatS r = b) : Calls Try.prog 10 #[.agg (regCs r p).toArray] w (RetV w (.bool b)) := by
  rw [← hb]; exact great_any w r p (h.sub hs)
theorem i64_up {k n : Nat} (h : k < n) (hn : n ≤ maxLen) : IntKind.i64.wrap ((k : Int) + 1) = ((k + 1 : Nat) : Int) := by unfold maxLen at hn; rw [i64_wrap (by omega) (by omega)]; omega
theorem any_up {α : Type} {p : α → Bool} {l : List α} {k : Nat} (hk : k < l.length) (h : (l.take k).any p = false) (h' : p l[k] = false) : (l.take (k + 1)).any p = false := by rw [any_take p l k hk h]; exact h'
end Rg
end Go.Proofs.Ytiaogfjmhpkcmaa
