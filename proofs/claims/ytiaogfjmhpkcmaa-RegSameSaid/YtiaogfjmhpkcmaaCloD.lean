/- What the copy of a register owns, and how it outlives a store into the copied table of done operations. No condition. -/
import Derived.Test.YtiaogfjmhpkcmaaCloC
namespace Go.Proofs.Ytiaogfjmhpkcmaa
open Go.RowKit
set_option linter.unusedVariables false
namespace Rg

theorem own_set {w : World} {base : Nat} {e e' : TypeId} {size : Nat} {v : Value} {n : Nat} {xs : List Value} (h : Own w base e size v n xs) {g : Nat} {cur : Array Value} (hg : w.heap[g]? = some (.cells cur e' (0, 0))) (hne : e ≠ e') (i : Nat) (u : Value) :
    Own (w.setCell ⟨g, i, none⟩ u) base e size v n xs := by
  obtain ⟨a, cap, rfl, hl, hn, hm, h⟩ := h
  refine ⟨a, cap, rfl, hl, hn, hm, ?_⟩
  rcases h with h0 | ⟨b, c, rfl, hb, hgg, hc, ht⟩
  · exact .inl h0
  · refine .inr ⟨b, c, rfl, hb, ?_, hc, ht⟩
    rw [heap_setCell_other _ _ _ _ (by
      intro hbg
      simp only at hbg
      subst hbg
      rw [hgg] at hg
      simp at hg
      exact hne hg.2)]
    exact hgg

/-- a list does not lie in block g -/
def Off {α : Type} (g : Nat) (a : Option Addr) (l : List α) : Prop := l = [] ∨ ∀ ad, a = some ad → ad.block ≠ g
theorem rows_set {α : Type} {R : World → List Value → α → Prop} {c : Nat} {w : World} {a : Option Addr} {l : List α} (h : Rows R c w a l) {g : Nat} (ho : Off g a l) (i : Nat) (u : Value) (hR : ∀ cs x, R w cs x → R (w.setCell ⟨g, i, none⟩ u) cs x) : Rows R c (w.setCell ⟨g, i, none⟩ u) a l := by
  refine ⟨h.1, ?_⟩
  rcases h.2 with h | ⟨b, o, ha, hc⟩
  · exact .inl h
  · rcases ho with ho | ho
    · exact .inl ho
    · have hbg := ho _ ha
      refine .inr ⟨b, o, ha, fun k hk => ?_⟩
      obtain ⟨cs, h1, h2, h3⟩ := hc k hk
      refine ⟨cs, h1, fun j hj => ?_, hR _ _ h3⟩
      have := h2 j hj
      have hoth := heap_setCell_other w ⟨g, i, none⟩ b u hbg
      simp only [World.cell?, hoth] at this ⊢
      exact this
theorem nums_set {w : World} {a : Option Addr} {l : List Int} (h : Nums w a l) {g : Nat} (ho : Off g a l) (i : Nat) (u : Value) : Nums (w.setCell ⟨g, i, none⟩ u) a l := rows_set h ho i u (fun _ _ h => h)
theorem nums_off {w : World} {a : Option Addr} {l : List Int} (h : Nums w a l) {g : Nat} (hg : w.heap.size ≤ g) : Off g a l := by
  by_cases hl : l = []
  · exact .inl hl
  · refine .inr fun ad had hbg => ?_
    obtain ⟨b, o, ha, _, hb, _⟩ := Nums.at h 0 (List.length_pos_iff.2 hl)
    rw [ha] at had
    cases had
    simp only at hbg
    omega

/-- a row of the table, whose variables lie elsewhere -/
def DoneG (g : Nat) (w : World) (cs : List Value) (d : DoneD) : Prop := ∃ p, cs = .int .u8 (d.client : Int) :: .int .u64 (d.seq : Int) :: repCs d.rep p ∧ U8 d.client ∧ U64 d.seq ∧ RepAt w d.rep p ∧ Off g p.a d.rep.vars
theorem DoneG.doneR {g : Nat} {w : World} {cs : List Value} {d : DoneD} (h : DoneG g w cs d) : DoneR w cs d := let ⟨p, h1, h2, h3, h4, _⟩ := h; ⟨p, h1, h2, h3, h4⟩
theorem DoneG.mono {g : Nat} {w w' : World} {cs : List Value} {d : DoneD} (h : DoneG g w cs d) (hb : Below w.heap.size w w') : DoneG g w' cs d := let ⟨p, h1, h2, h3, h4, h5⟩ := h; ⟨p, h1, h2, h3, h4.mono hb, h5⟩
theorem DoneG.set {g : Nat} {w : World} {cs : List Value} {d : DoneD} (h : DoneG g w cs d) (i : Nat) (u : Value) : DoneG g (w.setCell ⟨g, i, none⟩ u) cs d :=
  let ⟨p, h1, h2, h3, h4, h5⟩ := h; ⟨p, h1, h2, h3, ⟨h4.1, h4.2.1, h4.2.2.1, nums_set h4.2.2.2.1 h5 i u, h4.2.2.2.2⟩, h5⟩
theorem DoneR.off {w w' : World} {g : Nat} (hg : w.heap.size ≤ g) (hb : Below w.heap.size w w') {cs : List Value} {d : DoneD} (h : DoneR w cs d) : DoneG g w' cs d :=
  let ⟨p, h1, h2, h3, h4⟩ := h; ⟨p, h1, h2, h3, h4.mono hb, nums_off h4.2.2.2.1 hg⟩

/-- a row of the table, whose variables the call owns -/
def DoneO (w : World) (base : Nat) (cs : List Value) (d : DoneD) : Prop := ∃ a c, cs = .int .u8 (d.client : Int) :: .int .u64 (d.seq : Int) :: repCs d.rep ⟨a, c⟩ ∧ OwnRows NumR 1 2 w base a c d.rep.vars
theorem ownNum_mono {w w' : World} {base : Nat} {a : Option Addr} {cap : Nat} {l : List Int} (h : OwnRows NumR 1 2 w base a cap l) (hb : Below w.heap.size w w') : OwnRows NumR 1 2 w' base a cap l := OwnRows.mono (R := NumR) (w := w) (w' := w') (fun _ _ h => h) hb h
theorem ownRows_set {α : Type} {R : World → List Value → α → Prop} {c : Nat} {e e' : TypeId} {w : World} {base : Nat} {a : Option Addr} {cap : Nat} {l : List α} (h : OwnRows R c e w base a cap l) {g : Nat} {cur : Array Value} (hg : w.heap[g]? = some (.cells cur e' (0, 0))) (hne : e ≠ e') (i : Nat) (u : Value)
    (hR : ∀ cs x, R w cs x → R (w.setCell ⟨g, i, none⟩ u) cs x) : OwnRows R c e (w.setCell ⟨g, i, none⟩ u) base a cap l := by
  obtain ⟨css, h1, h2⟩ := h
  exact ⟨css, h1.mono hR, own_set h2 hg hne i u⟩
theorem DoneO.mono {w w' : World} {base : Nat} {cs : List Value} {d : DoneD} (h : DoneO w base cs d) (hb : Below w.heap.size w w') : DoneO w' base cs d := let ⟨a, c, h1, h2⟩ := h; ⟨a, c, h1, ownNum_mono h2 hb⟩
theorem DoneO.set {w : World} {base : Nat} {cs : List Value} {d : DoneD} (h : DoneO w base cs d) {g : Nat} {cur : Array Value} (hg : w.heap[g]? = some (.cells cur 66 (0, 0))) (i : Nat) (u : Value) : DoneO (w.setCell ⟨g, i, none⟩ u) base cs d :=
  let ⟨a, c, h1, h2⟩ := h; ⟨a, c, h1, ownRows_set h2 hg (by decide) i u (fun _ _ h => h)⟩

theorem flat_set {α : Type} (c : Nat) : ∀ (css : List (List α)) (h : ∀ x ∈ css, x.length = c) (i j : Nat) (hi : i < css.length) (hj : j < c) (v : α), (css.set i (css[i].set j v)).flatten = css.flatten.set (i * c + j) v
  | [], _, i, j, hi, _, _ => by simp at hi
  | x :: r, h, 0, j, _, hj, v => by
    rw [List.set_cons_zero, List.flatten_cons, List.flatten_cons, Nat.zero_mul, Nat.zero_add, List.set_append_left _ _ (by rw [h x (List.mem_cons_self ..)]; exact hj)]
    rfl
  | x :: r, h, i + 1, j, hi, hj, v => by
    have hx := h x (List.mem_cons_self ..)
    have := flat_set c r (fun y hy => h y (List.mem_cons_of_mem _ hy)) i j (by simpa using hi) hj v
    rw [List.set_cons_succ, List.flatten_cons, List.flatten_cons, List.set_append_right _ _ (by rw [hx, Nat.add_mul]; omega), hx, show (i + 1) * c + j - c = i * c + j by rw [Nat.add_mul]; omega, ← this]
    rfl

/-- the copied table, k rows of which have their own variables -/
structure TabK (w : World) (base : Nat) (k : Nat) (da : Option Addr) (dc : Nat) (l : List DoneD) : Prop where
  it : ∃ css g cur, RowsOf (DoneG g) 6 w css l ∧ l.length ≤ dc ∧ dc ≤ maxLen ∧ (dc = 0 ∨ da = some ⟨g, 0, none⟩ ∧ base ≤ g ∧ w.heap[g]? = some (.cells cur 66 (0, 0)) ∧ cur.size = dc * 6 ∧ cur.toList.take (l.length * 6) = css.flatten) ∧
    ∀ i (h : i < css.length) (h' : i < l.length), i < k → DoneO w base css[i] l[i]
theorem TabK.mono {w w' : World} {base k : Nat} {da : Option Addr} {dc : Nat} {l : List DoneD} (h : TabK w base k da dc l) (hb : Below w.heap.size w w') : TabK w' base k da dc l := by
  obtain ⟨css, g, cur, h1, h2, h3, h4, h5⟩ := h.it
  refine ⟨css, g, cur, h1.mono (fun _ _ h => h.mono hb), h2, h3, ?_, fun i hi hi' hk => (h5 i hi hi' hk).mono hb⟩
  rcases h4 with h4 | ⟨e1, e2, e3, e4, e5⟩
  · exact .inl h4
  · refine .inr ⟨e1, e2, ?_, e4, e5⟩
    rw [hb.block g (Array.getElem?_eq_some_iff.1 e3).1]; exact e3

/-- row k gets its own variables -/
theorem TabK.step {w : World} {base k : Nat} {da : Option Addr} {dc : Nat} {l : List DoneD} (h : TabK w base k da dc l) (hk : k < l.length) :
    ∃ g cur p, da = some ⟨g, 0, none⟩ ∧ base ≤ g ∧ g < w.heap.size ∧ w.heap[g]? = some (.cells cur 66 (0, 0)) ∧ w.cell? ⟨g, k * 6 + 5, none⟩ = some (.slice p.a l[k].rep.vars.length p.c) ∧ RepAt w l[k].rep p ∧
      ∀ (w' : World) (a' : Option Addr) (c' : Nat), Below w.heap.size w w' → OwnRows NumR 1 2 w' w.heap.size a' c' l[k].rep.vars → TabK (w'.setCell ⟨g, k * 6 + 5, none⟩ (.slice a' l[k].rep.vars.length c')) base (k + 1) da dc l := by
  obtain ⟨css, g, cur, h1, h2, h3, h4, h5⟩ := h.it
  rcases h4 with h4 | ⟨e1, e2, e3, e4, e5⟩
  · omega
  have hkc : k < css.length := by rw [h1.1]; exact hk
  obtain ⟨hlen6, p, hcs, hu8, hu64, hrep, hoff⟩ := h1.2 k hkc hk
  have hgl := (Array.getElem?_eq_some_iff.1 e3).1
  have hfl := flat_len 6 css h1.len
  have hcell : css.flatten[k * 6 + 5]? = some (.slice p.a l[k].rep.vars.length p.c) := by
    rw [flat_get 6 css h1.len k 5 hkc (by omega), hcs]
    simp [repCs]
  have hcur : cur[k * 6 + 5]? = some (.slice p.a l[k].rep.vars.length p.c) := by
    rw [← e5, List.getElem?_take] at hcell
    split at hcell
    · simpa using hcell
    · cases hcell
  refine ⟨g, cur, p, e1, e2, hgl, e3, by simp [World.cell?, e3, hcur], hrep, fun w' a' c' hb ho => ?_⟩
  have e3' : w'.heap[g]? = some (.cells cur 66 (0, 0)) := by rw [hb.block g hgl]; exact e3
  have hrows := ho.rows (by omega)
  have hgeq : ∀ i (hi : i < (css.set k (css[k].set 5 (.slice a' l[k].rep.vars.length c'))).length), (css.set k (css[k].set 5 (.slice a' l[k].rep.vars.length c')))[i] = if k = i then css[k].set 5 (.slice a' l[k].rep.vars.length c') else css[i]'(by simpa using hi) := fun i hi => List.getElem_set ..
  have hoff' : Off g a' l[k].rep.vars := by
    by_cases hl : l[k].rep.vars = []
    · exact .inl hl
    · refine .inr fun ad had hbg => ?_
      obtain ⟨cs0, r0, o0⟩ := ho
      obtain ⟨a2, cap2, hv, hl2, hn2, hm2, hx⟩ := o0
      simp at hv
      obtain ⟨rfl, rfl⟩ := hv
      have hpos : 0 < l[k].rep.vars.length := List.length_pos_iff.2 hl
      rcases hx with hx | ⟨g2, cur2, hx, hx2, _⟩
      · omega
      · rw [hx] at had
        cases had
        simp only at hbg
        omega
  refine ⟨css.set k (css[k].set 5 (.slice a' l[k].rep.vars.length c')), g, cur.setIfInBounds (k * 6 + 5) (.slice a' l[k].rep.vars.length c'), ⟨by simp [h1.1], fun i hi hi' => ?_⟩, h2, h3, .inr ⟨e1, e2, heap_setCell_same _ _ _ _ _ _ e3', by simp [e4], ?_⟩, fun i hi hi' hik => ?_⟩
  · have hi2 : i < css.length := by simpa using hi
    rw [hgeq i hi]
    by_cases hki : k = i
    · subst hki
      rw [if_pos rfl]
      refine ⟨by simp [hlen6], ⟨a', c'⟩, by rw [hcs]; simp [repCs], hu8, hu64, ⟨hrep.1, hrep.2.1, hrep.2.2.1, nums_set (show Nums w' a' _ from hrows.1) hoff' _ _, hrows.2.1, hrows.2.2⟩, hoff'⟩
    · rw [if_neg hki]
      exact ⟨(h1.2 i hi2 hi').1, ((h1.2 i hi2 hi').2.mono hb).set _ _⟩
  · rw [flat_set 6 css h1.len k 5 hkc (by omega), ← e5]
    simp [List.take_set]
  · have hi2 : i < css.length := by simpa using hi
    rw [hgeq i hi]
    by_cases hki : k = i
    · subst hki
      rw [if_pos rfl]
      refine ⟨a', c', by rw [hcs]; simp [repCs], ?_⟩
      obtain ⟨cs0, r0, o0⟩ := ho
      exact ownRows_set ⟨cs0, r0, o0.base (by omega)⟩ e3' (by decide) _ _ (fun _ _ h => h)
    · rw [if_neg hki]
      exact ((h5 i hi2 hi' (by omega)).mono hb).set e3' _ _
end Rg
end Go.Proofs.Ytiaogfjmhpkcmaa
