/- Lists of rows put together; memory that stands still, with what a call made; an element of a list that a call has made. No condition. -/
import Derived.Test.YtniopkoaplkpkaaRegD
import Derived.Test.YtniopkoaplkpkaaSyC
namespace Go.Proofs.Ytniopkoaplkpkaa
open Go.RowKit
set_option linter.unusedVariables false
namespace Rg

theorem flat_len {α : Type} (c : Nat) : ∀ (css : List (List α)), (∀ x ∈ css, x.length = c) → css.flatten.length = css.length * c
  | [], _ => by simp
  | x :: r, h => by
    rw [List.flatten_cons, List.length_append, flat_len c r (fun y hy => h y (List.mem_cons_of_mem _ hy)), h x (List.mem_cons_self ..), List.length_cons, Nat.add_mul]
    omega
theorem flat_get {α : Type} (c : Nat) : ∀ (css : List (List α)), (∀ x ∈ css, x.length = c) → ∀ (i j : Nat) (hi : i < css.length), j < c → css.flatten[i * c + j]? = css[i][j]?
  | [], _, i, j, hi, _ => by simp at hi
  | x :: r, h, 0, j, _, hj => by
    rw [List.flatten_cons, Nat.zero_mul, Nat.zero_add, List.getElem?_append_left (by rw [h x (List.mem_cons_self ..)]; exact hj)]
    rfl
  | x :: r, h, i + 1, j, hi, hj => by
    have hx := h x (List.mem_cons_self ..)
    rw [List.flatten_cons, List.getElem?_append_right (by rw [hx, Nat.add_mul]; omega), hx, show (i + 1) * c + j - c = i * c + j by rw [Nat.add_mul]; omega]
    rw [flat_get c r (fun y hy => h y (List.mem_cons_of_mem _ hy)) i j (by simpa using hi) hj]
    rfl

/-- rows: a list of lists of cells, element by element as R says -/
def RowsOf {α : Type} (R : World → List Value → α → Prop) (c : Nat) (w : World) (css : List (List Value)) (l : List α) : Prop :=
  css.length = l.length ∧ ∀ i (h : i < css.length) (h' : i < l.length), css[i].length = c ∧ R w css[i] l[i]
theorem RowsOf.len {α : Type} {R : World → List Value → α → Prop} {c : Nat} {w : World} {css : List (List Value)} {l : List α} (h : RowsOf R c w css l) : ∀ x ∈ css, x.length = c := by
  intro x hx
  obtain ⟨i, hi, rfl⟩ := List.getElem_of_mem hx
  exact (h.2 i hi (by rw [← h.1]; exact hi)).1
theorem RowsOf.mono {α : Type} {R : World → List Value → α → Prop} {c : Nat} {w w' : World} {css : List (List Value)} {l : List α} (hR : ∀ cs x, R w cs x → R w' cs x) (h : RowsOf R c w css l) : RowsOf R c w' css l :=
  ⟨h.1, fun i hi hi' => ⟨(h.2 i hi hi').1, hR _ _ (h.2 i hi hi').2⟩⟩

theorem rows_flat {α : Type} {R : World → List Value → α → Prop} {c : Nat} {w : World} {a : Option Addr} {l : List α} (h : Rows R c w a l) : ∃ css, RowsOf R c w css l ∧ Cells w a css.flatten := by
  rcases h.2 with rfl | ⟨b, o, ha, hc⟩
  · exact ⟨[], ⟨rfl, fun i hi => by simp at hi⟩, .inl rfl⟩
  · obtain ⟨css, hl, hp⟩ := choose_list' l.length (fun i (cs : List Value) => cs.length = c ∧ (∀ j (hj : j < cs.length), w.cell? ⟨b, o + i * c + j, none⟩ = some cs[j]) ∧ ∀ h : i < l.length, R w cs l[i]) (fun i hi => by
      obtain ⟨cs, h1, h2, h3⟩ := hc i hi
      exact ⟨cs, h1, h2, fun _ => h3⟩)
    have hR : RowsOf R c w css l := ⟨hl, fun i hi hi' => ⟨(hp i hi).1, (hp i hi).2.2 hi'⟩⟩
    refine ⟨css, hR, .inr ⟨b, o, ha, fun k hk => ?_⟩⟩
    have hlen := hR.len
    rw [flat_len c css hlen] at hk
    have hc0 : 0 < c := Nat.pos_of_ne_zero fun h0 => by subst h0; simp at hk
    have hi : k / c < css.length := Nat.div_lt_of_lt_mul (by rw [Nat.mul_comm]; exact hk)
    have hj : k % c < c := Nat.mod_lt _ hc0
    have hkk : k / c * c + k % c = k := by rw [Nat.mul_comm]; exact Nat.div_add_mod k c
    have hg := flat_get c css hlen (k / c) (k % c) hi hj
    rw [hkk] at hg
    have hq := (hp _ hi).2.1 (k % c) (by rw [(hp _ hi).1]; exact hj)
    rw [Nat.add_assoc, hkk] at hq
    rw [hq]
    have : css.flatten[k]? = some (css[k / c][k % c]'(by rw [(hp _ hi).1]; exact hj)) := by rw [hg]; simp
    rw [List.getElem?_eq_some_iff] at this
    rw [this.2]

theorem flat_rows {α : Type} {R : World → List Value → α → Prop} {c : Nat} {w : World} {a : Option Addr} {l : List α} {css : List (List Value)} (hm : l.length ≤ maxLen) (hc0 : 0 < c) (h : RowsOf R c w css l) (hc : Cells w a css.flatten) : Rows R c w a l := by
  refine ⟨hm, ?_⟩
  by_cases hl : l = []
  · exact .inl hl
  · have hpos : 0 < l.length := List.length_pos_iff.2 hl
    have hlen := h.len
    rcases hc with h0 | ⟨b, o, ha, hcc⟩
    · have := flat_len c css hlen
      rw [h0, h.1, List.length_nil] at this
      have := Nat.mul_pos hpos hc0
      omega
    · refine .inr ⟨b, o, ha, fun i hi => ?_⟩
      have hi' : i < css.length := by rw [h.1]; exact hi
      refine ⟨css[i], (h.2 i hi' hi).1, fun j hj => ?_, (h.2 i hi' hi).2⟩
      have hjc : j < c := by rw [(h.2 i hi' hi).1] at hj; exact hj
      have hg := flat_get c css hlen i j hi' hjc
      have hk : i * c + j < css.flatten.length := by
        rw [flat_len c css hlen]
        calc i * c + j < i * c + c := by omega
          _ = (i + 1) * c := by rw [Nat.add_mul]; omega
          _ ≤ css.length * c := Nat.mul_le_mul_right _ hi'
      have := hcc (i * c + j) hk
      rw [← Nat.add_assoc] at this
      rw [this]
      rw [List.getElem?_eq_getElem hk, List.getElem?_eq_getElem hj] at hg
      exact hg

/-- a list that the call owns -/
def OwnRows {α : Type} (R : World → List Value → α → Prop) (c : Nat) (e : TypeId) (w : World) (base : Nat) (a : Option Addr) (cap : Nat) (l : List α) : Prop :=
  ∃ css, RowsOf R c w css l ∧ Own w base e c (.slice a l.length cap) l.length css.flatten
theorem OwnRows.rows {α : Type} {R : World → List Value → α → Prop} {c : Nat} {e : TypeId} {w : World} {base : Nat} {a : Option Addr} {cap : Nat} {l : List α} (hc0 : 0 < c) (h : OwnRows R c e w base a cap l) : Rows R c w a l ∧ l.length ≤ cap ∧ cap ≤ maxLen := by
  obtain ⟨css, h1, h2⟩ := h
  have hcap : l.length ≤ cap ∧ cap ≤ maxLen := by
    obtain ⟨a', cap', hv, hl, hn, hm, _⟩ := h2
    simp at hv
    omega
  exact ⟨flat_rows (by omega) hc0 h1 h2.cells, hcap⟩
theorem OwnRows.mono {α : Type} {R : World → List Value → α → Prop} {c : Nat} {e : TypeId} {w w' : World} {base : Nat} {a : Option Addr} {cap : Nat} {l : List α} (hR : ∀ cs x, R w cs x → R w' cs x) (hb : Below w.heap.size w w') (h : OwnRows R c e w base a cap l) : OwnRows R c e w' base a cap l := by
  obtain ⟨css, h1, h2⟩ := h
  exact ⟨css, h1.mono hR, h2.below hb⟩
end Rg
end Go.Proofs.Ytniopkoaplkpkaa
namespace Go.Proofs.Ytniopkoaplkpkaa
open Go.RowKit
set_option linter.unusedVariables false
set_option linter.unusedSimpArgs false
namespace Sy
/-- memory that stands still: what did before, and what a call made -/
def join (m w' : World) (B : Nat) : World := { w' with heap := ((List.range w'.heap.size).map fun i => if i < B then (m.heap[i]?).getD (.cells #[] 0 (0, 0)) else (w'.heap[i]?).getD (.cells #[] 0 (0, 0))).toArray }
theorem join_heap (m w' : World) (B i : Nat) (h : i < w'.heap.size) : (join m w' B).heap[i]? = some (if i < B then (m.heap[i]?).getD (.cells #[] 0 (0, 0)) else (w'.heap[i]?).getD (.cells #[] 0 (0, 0))) := by
  simp [join, h]
theorem retM_of_own {m w w' : World} (hs : Sub m w) (hb : Below w.heap.size w w') :
    ∃ m', Sub m m' ∧ Sub m' w' ∧ (∀ p u, p.block < w.heap.size → m'.cell? p = some u → m.cell? p = some u) ∧ ∀ b, w.heap.size ≤ b → b < w'.heap.size → m'.heap[b]? = w'.heap[b]? := by
  have hlow : ∀ p : Addr, p.block < w.heap.size → (join m w' w.heap.size).cell? p = m.cell? p := by
    intro p hp
    have := join_heap m w' w.heap.size p.block (Nat.lt_of_lt_of_le hp hb.size)
    rw [if_pos hp] at this
    unfold World.cell?
    rw [this]
    cases hm : m.heap[p.block]? with
    | none => simp
    | some o => simp
  have hhigh : ∀ b, w.heap.size ≤ b → b < w'.heap.size → (join m w' w.heap.size).heap[b]? = w'.heap[b]? := by
    intro b h1 h2
    rw [join_heap m w' w.heap.size b h2, if_neg (by omega)]
    simp [h2]
  refine ⟨join m w' w.heap.size, fun p v e => ?_, fun p v e => ?_, fun p u hp e => by rw [← hlow p hp]; exact e, hhigh⟩
  · rw [hlow p (World.block_lt_of_cell? w _ (hs p v e))]; exact e
  · by_cases hp : p.block < w.heap.size
    · rw [hlow p hp] at e
      exact sub_below hb p v (hs p v e)
    · have hlt := World.block_lt_of_cell? _ _ e
      have hsz : (join m w' w.heap.size).heap.size = w'.heap.size := by simp [join]
      rw [hsz] at hlt
      rw [World.cell?_of_block (w := w') (hhigh p.block (by omega) hlt)] at e
      exact e
end Sy
end Go.Proofs.Ytniopkoaplkpkaa
namespace Go.Proofs.Ytniopkoaplkpkaa
open Go.RowKit
set_option linter.unusedVariables false
set_option linter.unusedSimpArgs false
namespace Rg
theorem OwnRows.at {α : Type} {R : World → List Value → α → Prop} {c : Nat} {e : TypeId} {w : World} {base : Nat} {a : Option Addr} {cap : Nat} {l : List α} (h : OwnRows R c e w base a cap l) {i : Nat} (hi : i < l.length) :
    ∃ g cur row, a = some ⟨g, 0, none⟩ ∧ base ≤ g ∧ g < w.heap.size ∧ w.heap[g]? = some (.cells cur e (0, 0)) ∧ R w row l[i] ∧ ∀ j, j < c → cur[i * c + j]? = row[j]? := by
  obtain ⟨css, h1, a', cap', hv, hl, hn, hm, hx⟩ := h
  simp at hv
  obtain ⟨rfl, rfl⟩ := hv
  rcases hx with hx | ⟨g, cur, e1, e2, e3, e4, e5⟩
  · omega
  · have hic : i < css.length := by rw [h1.1]; exact hi
    refine ⟨g, cur, css[i], e1, e2, (Array.getElem?_eq_some_iff.1 e3).1, e3, (h1.2 i hic hi).2, fun j hj => ?_⟩
    have h3 := flat_get c css h1.len i j hic hj
    have hlt : i * c + j < l.length * c := by
      have := Nat.mul_le_mul_right c (show i + 1 ≤ l.length from hi)
      rw [Nat.add_mul] at this
      omega
    rw [← h3, ← e5, List.getElem?_take_of_lt hlt]
    simp
end Rg
end Go.Proofs.Ytniopkoaplkpkaa
