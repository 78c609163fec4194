/- Memory that stands still, with what a call made. Over any program. No condition. An element of a list that a call has made. No condition. -/
import Derived.Test.YtdpmfjbhadapiaaSyC
import Derived.Test.YtdpmfjbhadapiaaCloB
namespace Go.Proofs.Ytdpmfjbhadapiaa
open Go.RowKit
set_option linter.unusedVariables false
set_option linter.unusedSimpArgs false
namespace Sy
/-- memory that stands still: what did before, and what a call made -/
def join (m w' : World) (B : Nat) : World := { w' with heap := ((List.range w'.heap.size).map fun i => if i < B then (m.heap[i]?).getD (.cells #[] 0 (0, 0)) else (w'.heap[i]?).getD (.cells #[] 0 (0, 0))).toArray }
theorem join_heap (m w' : World) (B i : Nat) (h : i < w'.heap.size) : (join m w' B).heap[i]? = some (if i < B then (m.heap[i]?).getD (.cells #[] 0 (0, 0)) else (w'.heap[i]?).getD (.cells #[] 0 (0, 0))) := by
  simp [join, h]
theorem retM_of_own {m w w' : World} (hs : Sub m w) (hb : Below w.heap.size w w') :
    ∃ m', Sub m m' ∧ Sub m' w' ∧ (∀ p u, p.block < w.heap.size → m'.cell? p = some u → m.cell? p = some u) ∧ ∀ b, w.heap.size ≤ b → b < w'.heap.size → m'.heap[b]? = w'.heap[b]? := by
  have hlow : ∀ p : Addr, p.block < w.heap.size → (join m w' w.heap.size).cell? p = m.cell? p := by
    intro p hp
    have := join_heap m w' w.heap.size p.block (Nat.lt_of_lt_of_le hp hb.size)
    rw [if_pos hp] at this
    unfold World.cell?
    rw [this]
    cases hm : m.heap[p.block]? with
    | none => simp
    | some o => simp
  have hhigh : ∀ b, w.heap.size ≤ b → b < w'.heap.size → (join m w' w.heap.size).heap[b]? = w'.heap[b]? := by
    intro b h1 h2
    rw [join_heap m w' w.heap.size b h2, if_neg (by omega)]
    simp [h2]
  refine ⟨join m w' w.heap.size, fun p v e => ?_, fun p v e => ?_, fun p u hp e => by rw [← hlow p hp]; exact e, hhigh⟩
  · rw [hlow p (World.block_lt_of_cell? w _ (hs p v e))]; exact e
  · by_cases hp : p.block < w.heap.size
    · rw [hlow p hp] at e
      exact sub_below hb p v (hs p v e)
    · have hlt := World.block_lt_of_cell? _ _ e
      have hsz : (join m w' w.heap.size).heap.size = w'.heap.size := by simp [join]
      rw [hsz] at hlt
      rw [World.cell?_of_block (w := w') (hhigh p.block (by omega) hlt)] at e
      exact e
end Sy
end Go.Proofs.Ytdpmfjbhadapiaa
namespace Go.Proofs.Ytdpmfjbhadapiaa
open Go.RowKit
set_option linter.unusedVariables false
set_option linter.unusedSimpArgs false
namespace Rg
theorem OwnRows.at {α : Type} {R : World → List Value → α → Prop} {c : Nat} {e : TypeId} {w : World} {base : Nat} {a : Option Addr} {cap : Nat} {l : List α} (h : OwnRows R c e w base a cap l) {i : Nat} (hi : i < l.length) :
    ∃ g cur row, a = some ⟨g, 0, none⟩ ∧ base ≤ g ∧ g < w.heap.size ∧ w.heap[g]? = some (.cells cur e (0, 0)) ∧ R w row l[i] ∧ ∀ j, j < c → cur[i * c + j]? = row[j]? := by
  obtain ⟨css, h1, a', cap', hv, hl, hn, hm, hx⟩ := h
  simp at hv
  obtain ⟨rfl, rfl⟩ := hv
  rcases hx with hx | ⟨g, cur, e1, e2, e3, e4, e5⟩
  · omega
  · have hic : i < css.length := by rw [h1.1]; exact hi
    refine ⟨g, cur, css[i], e1, e2, (Array.getElem?_eq_some_iff.1 e3).1, e3, (h1.2 i hic hi).2, fun j hj => ?_⟩
    have h3 := flat_get c css h1.len i j hic hj
    have hlt : i * c + j < l.length * c := by
      have := Nat.mul_le_mul_right c (show i + 1 ≤ l.length from hi)
      rw [Nat.add_mul] at this
      omega
    rw [← h3, ← e5, List.getElem?_take_of_lt hlt]
    simp
end Rg
end Go.Proofs.Ytdpmfjbhadapiaa
