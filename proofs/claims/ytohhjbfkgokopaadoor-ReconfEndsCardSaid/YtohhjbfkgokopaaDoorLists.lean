/- Slices of structs in memory, read as lists: each element by its cells. Over any program. No condition. -/
import Derived.Test.YtohhjbfkgokopaaDoorOpen
import Derived.Test.YtohhjbfkgokopaaDoorUp
namespace Go.Proofs.YtohhjbfkgokopaaDoor
open Go.ChangeShapes Go.WideShapes Go.ChangeAt Go.RowKit Go.Deep
set_option linter.unusedVariables false

/-- what hands back a truth, and leaves all that was there -/
def RetBo (w : World) (b : Bool) (e : Ending) (w' : World) : Prop := e = .returned (.bool b) ∧ Below w.heap.size w w'
theorem retBo {w w' : World} {b b' : Bool} (h : b = b') (hb : Below w.heap.size w w') : RetBo w b' (.returned (.bool b)) w' := by subst h; exact ⟨rfl, hb⟩
theorem cell_new {wr w1 : World} {cs : Array Value} {T : TypeId} (b1 : Below (wr.alloc (.cells cs T)).heap.size (wr.alloc (.cells cs T)) w1) (i : Nat) : w1.cell? ⟨wr.heap.size, i, none⟩ = cs[i]? := by
  rw [b1.cell (p := ⟨wr.heap.size, i, none⟩) (by simp)]
  simp only [World.cell?, heap_alloc_new]
  rfl
theorem beq_cases (a c : Int) : (a = c ∧ (a == c) = true) ∨ (a ≠ c ∧ (a == c) = false) := by
  by_cases h : a = c
  · exact .inl ⟨h, by simp [h]⟩
  · exact .inr ⟨h, by simp [h]⟩
theorem below_dr (w : World) (n : Nat) : Below w.heap.size w (w.drewN n) := ⟨rfl, rfl, rfl, Nat.le_refl _, fun _ _ => rfl⟩
theorem cell_up {w w' : World} (hb : Below w.heap.size w w') {b o : Nat} {v : Value} (h : w.cell? ⟨b, o, none⟩ = some v) : w'.cell? ⟨b, o, none⟩ = some v := by
  rw [hb.cell (p := ⟨b, o, none⟩) (World.block_lt_of_cell? w _ h)]; exact h
theorem beq_refl_b (b : Bool) : (b == b) = true := by cases b <;> rfl
theorem beq_refl_i (b : Int) : (b == b) = true := by simp

/-- a slice reads as a list: c cells an element, each element as R says -/
def Rows {α : Type} (R : World → List Value → α → Prop) (c : Nat) (w : World) (a : Option Addr) (l : List α) : Prop :=
  l.length ≤ maxLen ∧ (l = [] ∨ ∃ b o, a = some ⟨b, o, none⟩ ∧ ∀ i (h : i < l.length), ∃ cs : List Value, cs.length = c ∧ (∀ j (hj : j < cs.length), w.cell? ⟨b, o + i * c + j, none⟩ = some cs[j]) ∧ R w cs l[i])

theorem Rows.mono {α : Type} {R : World → List Value → α → Prop} {c : Nat} {w w' : World} {a : Option Addr} {l : List α} (hR : ∀ cs x, R w cs x → R w' cs x) (hb : Below w.heap.size w w') (h : Rows R c w a l) : Rows R c w' a l := by
  refine ⟨h.1, ?_⟩
  rcases h.2 with h | ⟨b, o, ha, hc⟩
  · exact .inl h
  · refine .inr ⟨b, o, ha, fun i hi => ?_⟩
    obtain ⟨cs, h1, h2, h3⟩ := hc i hi
    refine ⟨cs, h1, fun j hj => ?_, hR _ _ h3⟩
    have h4 := h2 j hj
    rw [hb.cell (p := ⟨b, o + i * c + j, none⟩) (World.block_lt_of_cell? w _ h4)]; exact h4

theorem Rows.at {α : Type} {R : World → List Value → α → Prop} {c : Nat} {w : World} {a : Option Addr} {l : List α} (h : Rows R c w a l) (k : Nat) (hk : k < l.length) :
    ∃ b o cs, a = some ⟨b, o, none⟩ ∧ cs.length = c ∧ (∀ j (hj : j < cs.length), w.cell? ⟨b, o + k * c + j, none⟩ = some cs[j]) ∧ R w cs l[k] ∧ (0 < c → b < w.heap.size) := by
  rcases h.2 with h | ⟨b, o, ha, hc⟩
  · subst h; simp at hk
  · obtain ⟨cs, h1, h2, h3⟩ := hc k hk
    exact ⟨b, o, cs, ha, h1, h2, h3, fun h0 => World.block_lt_of_cell? w _ (h2 0 (by omega))⟩
theorem Rows.nil {α : Type} (R : World → List Value → α → Prop) (c : Nat) (w : World) (a : Option Addr) : Rows R c w a [] := ⟨Nat.zero_le _, .inl rfl⟩

/-- numbers in memory -/
def Nums (w : World) (a : Option Addr) (l : List Int) : Prop := Rows (fun _ cs (x : Int) => cs = [.int .i64 x] ∧ -9223372036854775808 ≤ x ∧ x ≤ 9223372036854775807) 1 w a l
theorem Nums.mono {w w' : World} {a : Option Addr} {l : List Int} (h : Nums w a l) (hb : Below w.heap.size w w') : Nums w' a l := Rows.mono (fun _ _ h => h) hb h
theorem Nums.at {w : World} {a : Option Addr} {l : List Int} (h : Nums w a l) (k : Nat) (hk : k < l.length) :
    ∃ b o, a = some ⟨b, o, none⟩ ∧ w.cell? ⟨b, o + k, none⟩ = some (.int .i64 l[k]) ∧ b < w.heap.size ∧ -9223372036854775808 ≤ l[k] ∧ l[k] ≤ 9223372036854775807 := by
  obtain ⟨b, o, cs, ha, h1, h2, ⟨rfl, h3⟩, h4⟩ := Rows.at h k hk
  have := h2 0 (by simp)
  exact ⟨b, o, ha, by simpa using this, h4 (by omega), h3⟩

section
variable {H : Type} {enc : TypeId × Value → H} {P : Program} {W : World} {spare : Nat → Bool} {b2 : Nat} {held : Bool}
theorem choose_list' {α : Type} (n : Nat) (p : Nat → α → Prop) (h : ∀ i, i < n → ∃ x, p i x) : ∃ l : List α, l.length = n ∧ ∀ i (hi : i < l.length), p i l[i] := by
  induction n with
  | zero => exact ⟨[], rfl, by simp⟩
  | succ n ih =>
    obtain ⟨l, h1, h2⟩ := ih (fun i hi => h i (by omega))
    obtain ⟨x, hx⟩ := h n (by omega)
    refine ⟨l ++ [x], by simp [h1], fun i hi => ?_⟩
    by_cases hl : i < l.length
    · rw [List.getElem_append_left hl]; exact h2 i hl
    · have : i = l.length := by simp at hi; omega
      subst this
      simp only [List.getElem_concat_length]
      rw [h1]; exact hx

/-- a slice that comes in, opened by what opens its elements -/
theorem rows_open {α : Type} {R : World → List Value → α → Prop} {t e : TypeId} (c : Nat) (hc0 : 0 < c) (hC : P.cellsOf e = c) (ht : P.underlying t = some (.slice e))
    (hR : ∀ (fuel : Nat) (cs : List Value) (x : DataW H × List MemPlace), DataW.trod enc P W b2 spare held fuel e cs = some x → ∃ y : α, R W cs y)
    (fuel : Nat) (cs : List Value) (x : DataW H × List MemPlace) (h : DataW.trod enc P W b2 spare held fuel t cs = some x) :
    ∃ (a : Option Addr) (cap : Nat) (l : List α), cs = [.slice a l.length cap] ∧ l.length ≤ cap ∧ cap ≤ maxLen ∧ Rows R c W a l := by
  obtain ⟨a, len, cap, rfl, h1, h2, h3, h4⟩ := slice_elems c hc0 hC ht h
  rcases h3 with rfl | ⟨b, o, rfl⟩
  · exact ⟨a, cap, [], rfl, h1, h2, Rows.nil _ _ _ _⟩
  · obtain ⟨l, hl, hp⟩ := choose_list' len (fun i (y : α) => ∃ cs : List Value, cs.length = c ∧ (∀ j (hj : j < cs.length), W.cell? ⟨b, o + i * c + j, none⟩ = some cs[j]) ∧ R W cs y) (fun i hi => by
      obtain ⟨cs', n, y, hcl, hcc, ht'⟩ := h4 b o rfl i hi
      obtain ⟨z, hz⟩ := hR n cs' y ht'
      exact ⟨z, cs', hcl, hcc, hz⟩)
    subst hl
    exact ⟨_, cap, l, rfl, h1, h2, by omega, .inr ⟨b, o, rfl, hp⟩⟩
end
end Go.Proofs.YtohhjbfkgokopaaDoor
