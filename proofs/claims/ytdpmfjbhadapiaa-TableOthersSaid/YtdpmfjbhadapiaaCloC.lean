/- slices.Clone at the register's lists, as data. Conditions: the list can be read, and is short. -/
import Derived.Test.YtdpmfjbhadapiaaCloB
namespace Go.Proofs.Ytdpmfjbhadapiaa
open Go.RowKit
set_option linter.unusedVariables false
namespace Rg

def NumR (_ : World) (cs : List Value) (x : Int) : Prop := cs = [.int .i64 x] ∧ -9223372036854775808 ≤ x ∧ x ≤ 9223372036854775807
theorem flat_one' {α : Type} {R : World → List Value → α → Prop} {c : Nat} {w : World} {css : List (List Value)} {l : List α} (h : RowsOf R c w css l) (h1 : ∀ w cs x, R w cs x → ∀ u ∈ cs, u.oneCell' = true) : ∀ u ∈ css.flatten, u.oneCell' = true := by
  intro u hu
  obtain ⟨cs, hcs, hu⟩ := List.mem_flatten.1 hu
  obtain ⟨i, hi, rfl⟩ := List.getElem_of_mem hcs
  exact h1 _ _ _ (h.2 i hi (by rw [← h.1]; exact hi)).2 u hu
def RetL {α : Type} (R : World → List Value → α → Prop) (c : Nat) (e : TypeId) (w : World) (l : List α) (en : Ending) (w' : World) : Prop :=
  (∃ a' cap', en = .returned (.slice a' l.length cap') ∧ OwnRows R c e w' w.heap.size a' cap' l) ∧ Below w.heap.size w w'

theorem cloneInts (w : World) (a : Option Addr) (cap : Nat) (l : List Int) (hl : Nums w a l) (hn : l.length ≤ 50) :
    Calls Try.prog 38 #[.slice a l.length cap] w (RetL NumR 1 2 w l) := by
  obtain ⟨css, h1, h2⟩ := rows_flat (R := NumR) (c := 1) (l := l) hl
  have hlen := flat_len 1 css h1.len
  rw [h1.1] at hlen
  refine (cloneInt_any w a l.length cap css.flatten hlen h2 (flat_one' h1 (by rintro w cs x ⟨rfl, _⟩ u hu; simp at hu; subst hu; rfl)) hn).mono ?_
  rintro en w1 ⟨⟨a', cap', rfl, ho⟩, b1⟩
  exact ⟨⟨a', cap', rfl, css, h1.mono (fun cs x h => h), ho⟩, b1⟩
theorem cloneCells (w : World) (a : Option Addr) (cap : Nat) (l : List CellD) (hl : Cels w a l) (hn : l.length ≤ 50) :
    Calls Try.prog 74 #[.slice a l.length cap] w (RetL CellR 4 47 w l) := by
  obtain ⟨css, h1, h2⟩ := rows_flat (R := CellR) (c := 4) (l := l) hl
  have hlen := flat_len 4 css h1.len
  rw [h1.1] at hlen
  refine (cloneCell_any w a l.length cap css.flatten hlen h2 (flat_one' h1 (by rintro w cs x ⟨rfl, _⟩ u hu; simp at hu; rcases hu with rfl | rfl | rfl | rfl <;> rfl)) hn).mono ?_
  rintro en w1 ⟨⟨a', cap', rfl, ho⟩, b1⟩
  exact ⟨⟨a', cap', rfl, css, h1.mono (fun cs x h => h), ho⟩, b1⟩
theorem cloneMarks (w : World) (a : Option Addr) (cap : Nat) (l : List MarkD) (hl : Marks w a l) (hn : l.length ≤ 50) :
    Calls Try.prog 75 #[.slice a l.length cap] w (RetL MarkR 3 69 w l) := by
  obtain ⟨css, h1, h2⟩ := rows_flat (R := MarkR) (c := 3) (l := l) hl
  have hlen := flat_len 3 css h1.len
  rw [h1.1] at hlen
  refine (cloneMark_any w a l.length cap css.flatten hlen h2 (flat_one' h1 (by rintro w cs x ⟨rfl, _⟩ u hu; simp at hu; rcases hu with rfl | rfl | rfl <;> rfl)) hn).mono ?_
  rintro en w1 ⟨⟨a', cap', rfl, ho⟩, b1⟩
  exact ⟨⟨a', cap', rfl, css, h1.mono (fun cs x h => h), ho⟩, b1⟩
theorem cloneDones (w : World) (a : Option Addr) (cap : Nat) (l : List DoneD) (hl : Dones w a l) (hn : l.length ≤ 50) :
    Calls Try.prog 76 #[.slice a l.length cap] w (RetL DoneR 6 96 w l) := by
  obtain ⟨css, h1, h2⟩ := rows_flat (R := DoneR) (c := 6) (l := l) hl
  have hlen := flat_len 6 css h1.len
  rw [h1.1] at hlen
  refine (cloneDone_any w a l.length cap css.flatten hlen h2 (flat_one' h1 (by rintro w cs x ⟨p, rfl, _⟩ u hu; simp [repCs] at hu; rcases hu with rfl | rfl | rfl | rfl | rfl | rfl <;> rfl)) hn).mono ?_
  rintro en w1 ⟨⟨a', cap', rfl, ho⟩, b1⟩
  exact ⟨⟨a', cap', rfl, css, h1.mono (fun cs x h => h.mono b1), ho⟩, b1⟩
end Rg
end Go.Proofs.Ytdpmfjbhadapiaa
