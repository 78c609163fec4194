/- What the copy of a register owns, and how it outlives a store into the copied table of done operations. No condition. The walk of reg.Clone. Conditions: the register can be read, and its lists are short. The walk of reg.Clone. Conditions: the register can be read, and its lists are short. -/
import Derived.Test.YtdpmfjbhadapiaaRegD
import Derived.Test.YtdpmfjbhadapiaaFrame
import Derived.Test.YtdpmfjbhadapiaaBase
namespace Go.Proofs.Ytdpmfjbhadapiaa
open Go.RowKit
set_option linter.unusedVariables false
namespace Rg

theorem own_set {w : World} {base : Nat} {e e' : TypeId} {size : Nat} {v : Value} {n : Nat} {xs : List Value} (h : Own w base e size v n xs) {g : Nat} {cur : Array Value} (hg : w.heap[g]? = some (.cells cur e' (0, 0))) (hne : e ≠ e') (i : Nat) (u : Value) :
    Own (w.setCell ⟨g, i, none⟩ u) base e size v n xs := by
  obtain ⟨a, cap, rfl, hl, hn, hm, h⟩ := h
  refine ⟨a, cap, rfl, hl, hn, hm, ?_⟩
  rcases h with h0 | ⟨b, c, rfl, hb, hgg, hc, ht⟩
  · exact .inl h0
  · refine .inr ⟨b, c, rfl, hb, ?_, hc, ht⟩
    rw [heap_setCell_other _ _ _ _ (by
      intro hbg
      simp only at hbg
      subst hbg
      rw [hgg] at hg
      simp at hg
      exact hne hg.2)]
    exact hgg

/-- a list does not lie in block g -/
def Off {α : Type} (g : Nat) (a : Option Addr) (l : List α) : Prop := l = [] ∨ ∀ ad, a = some ad → ad.block ≠ g
theorem rows_set {α : Type} {R : World → List Value → α → Prop} {c : Nat} {w : World} {a : Option Addr} {l : List α} (h : Rows R c w a l) {g : Nat} (ho : Off g a l) (i : Nat) (u : Value) (hR : ∀ cs x, R w cs x → R (w.setCell ⟨g, i, none⟩ u) cs x) : Rows R c (w.setCell ⟨g, i, none⟩ u) a l := by
  refine ⟨h.1, ?_⟩
  rcases h.2 with h | ⟨b, o, ha, hc⟩
  · exact .inl h
  · rcases ho with ho | ho
    · exact .inl ho
    · have hbg := ho _ ha
      refine .inr ⟨b, o, ha, fun k hk => ?_⟩
      obtain ⟨cs, h1, h2, h3⟩ := hc k hk
      refine ⟨cs, h1, fun j hj => ?_, hR _ _ h3⟩
      have := h2 j hj
      have hoth := heap_setCell_other w ⟨g, i, none⟩ b u hbg
      simp only [World.cell?, hoth] at this ⊢
      exact this
theorem nums_set {w : World} {a : Option Addr} {l : List Int} (h : Nums w a l) {g : Nat} (ho : Off g a l) (i : Nat) (u : Value) : Nums (w.setCell ⟨g, i, none⟩ u) a l := rows_set h ho i u (fun _ _ h => h)
theorem nums_off {w : World} {a : Option Addr} {l : List Int} (h : Nums w a l) {g : Nat} (hg : w.heap.size ≤ g) : Off g a l := by
  by_cases hl : l = []
  · exact .inl hl
  · refine .inr fun ad had hbg => ?_
    obtain ⟨b, o, ha, _, hb, _⟩ := Nums.at h 0 (List.length_pos_iff.2 hl)
    rw [ha] at had
    cases had
    simp only at hbg
    omega

/-- a row of the table, whose variables lie elsewhere -/
def DoneG (g : Nat) (w : World) (cs : List Value) (d : DoneD) : Prop := ∃ p, cs = .int .u8 (d.client : Int) :: .int .u64 (d.seq : Int) :: repCs d.rep p ∧ U8 d.client ∧ U64 d.seq ∧ RepAt w d.rep p ∧ Off g p.a d.rep.vars
theorem DoneG.doneR {g : Nat} {w : World} {cs : List Value} {d : DoneD} (h : DoneG g w cs d) : DoneR w cs d := let ⟨p, h1, h2, h3, h4, _⟩ := h; ⟨p, h1, h2, h3, h4⟩
theorem DoneG.mono {g : Nat} {w w' : World} {cs : List Value} {d : DoneD} (h : DoneG g w cs d) (hb : Below w.heap.size w w') : DoneG g w' cs d := let ⟨p, h1, h2, h3, h4, h5⟩ := h; ⟨p, h1, h2, h3, h4.mono hb, h5⟩
theorem DoneG.set {g : Nat} {w : World} {cs : List Value} {d : DoneD} (h : DoneG g w cs d) (i : Nat) (u : Value) : DoneG g (w.setCell ⟨g, i, none⟩ u) cs d :=
  let ⟨p, h1, h2, h3, h4, h5⟩ := h; ⟨p, h1, h2, h3, ⟨h4.1, h4.2.1, h4.2.2.1, nums_set h4.2.2.2.1 h5 i u, h4.2.2.2.2⟩, h5⟩
theorem DoneR.off {w w' : World} {g : Nat} (hg : w.heap.size ≤ g) (hb : Below w.heap.size w w') {cs : List Value} {d : DoneD} (h : DoneR w cs d) : DoneG g w' cs d :=
  let ⟨p, h1, h2, h3, h4⟩ := h; ⟨p, h1, h2, h3, h4.mono hb, nums_off h4.2.2.2.1 hg⟩

/-- a row of the table, whose variables the call owns -/
def DoneO (w : World) (base : Nat) (cs : List Value) (d : DoneD) : Prop := ∃ a c, cs = .int .u8 (d.client : Int) :: .int .u64 (d.seq : Int) :: repCs d.rep ⟨a, c⟩ ∧ OwnRows NumR 1 2 w base a c d.rep.vars
theorem ownNum_mono {w w' : World} {base : Nat} {a : Option Addr} {cap : Nat} {l : List Int} (h : OwnRows NumR 1 2 w base a cap l) (hb : Below w.heap.size w w') : OwnRows NumR 1 2 w' base a cap l := OwnRows.mono (R := NumR) (w := w) (w' := w') (fun _ _ h => h) hb h
theorem ownRows_set {α : Type} {R : World → List Value → α → Prop} {c : Nat} {e e' : TypeId} {w : World} {base : Nat} {a : Option Addr} {cap : Nat} {l : List α} (h : OwnRows R c e w base a cap l) {g : Nat} {cur : Array Value} (hg : w.heap[g]? = some (.cells cur e' (0, 0))) (hne : e ≠ e') (i : Nat) (u : Value)
    (hR : ∀ cs x, R w cs x → R (w.setCell ⟨g, i, none⟩ u) cs x) : OwnRows R c e (w.setCell ⟨g, i, none⟩ u) base a cap l := by
  obtain ⟨css, h1, h2⟩ := h
  exact ⟨css, h1.mono hR, own_set h2 hg hne i u⟩
theorem DoneO.mono {w w' : World} {base : Nat} {cs : List Value} {d : DoneD} (h : DoneO w base cs d) (hb : Below w.heap.size w w') : DoneO w' base cs d := let ⟨a, c, h1, h2⟩ := h; ⟨a, c, h1, ownNum_mono h2 hb⟩
theorem DoneO.set {w : World} {base : Nat} {cs : List Value} {d : DoneD} (h : DoneO w base cs d) {g : Nat} {cur : Array Value} (hg : w.heap[g]? = some (.cells cur 96 (0, 0))) (i : Nat) (u : Value) : DoneO (w.setCell ⟨g, i, none⟩ u) base cs d :=
  let ⟨a, c, h1, h2⟩ := h; ⟨a, c, h1, ownRows_set h2 hg (by decide) i u (fun _ _ h => h)⟩

theorem flat_set {α : Type} (c : Nat) : ∀ (css : List (List α)) (h : ∀ x ∈ css, x.length = c) (i j : Nat) (hi : i < css.length) (hj : j < c) (v : α), (css.set i (css[i].set j v)).flatten = css.flatten.set (i * c + j) v
  | [], _, i, j, hi, _, _ => by simp at hi
  | x :: r, h, 0, j, _, hj, v => by
    rw [List.set_cons_zero, List.flatten_cons, List.flatten_cons, Nat.zero_mul, Nat.zero_add, List.set_append_left _ _ (by rw [h x (List.mem_cons_self ..)]; exact hj)]
    rfl
  | x :: r, h, i + 1, j, hi, hj, v => by
    have hx := h x (List.mem_cons_self ..)
    have := flat_set c r (fun y hy => h y (List.mem_cons_of_mem _ hy)) i j (by simpa using hi) hj v
    rw [List.set_cons_succ, List.flatten_cons, List.flatten_cons, List.set_append_right _ _ (by rw [hx, Nat.add_mul]; omega), hx, show (i + 1) * c + j - c = i * c + j by rw [Nat.add_mul]; omega, ← this]
    rfl

/-- the copied table, k rows of which have their own variables -/
structure TabK (w : World) (base : Nat) (k : Nat) (da : Option Addr) (dc : Nat) (l : List DoneD) : Prop where
  it : ∃ css g cur, RowsOf (DoneG g) 6 w css l ∧ l.length ≤ dc ∧ dc ≤ maxLen ∧ (dc = 0 ∨ da = some ⟨g, 0, none⟩ ∧ base ≤ g ∧ w.heap[g]? = some (.cells cur 96 (0, 0)) ∧ cur.size = dc * 6 ∧ cur.toList.take (l.length * 6) = css.flatten) ∧
    ∀ i (h : i < css.length) (h' : i < l.length), i < k → DoneO w base css[i] l[i]
theorem TabK.mono {w w' : World} {base k : Nat} {da : Option Addr} {dc : Nat} {l : List DoneD} (h : TabK w base k da dc l) (hb : Below w.heap.size w w') : TabK w' base k da dc l := by
  obtain ⟨css, g, cur, h1, h2, h3, h4, h5⟩ := h.it
  refine ⟨css, g, cur, h1.mono (fun _ _ h => h.mono hb), h2, h3, ?_, fun i hi hi' hk => (h5 i hi hi' hk).mono hb⟩
  rcases h4 with h4 | ⟨e1, e2, e3, e4, e5⟩
  · exact .inl h4
  · refine .inr ⟨e1, e2, ?_, e4, e5⟩
    rw [hb.block g (Array.getElem?_eq_some_iff.1 e3).1]; exact e3

/-- row k gets its own variables -/
theorem TabK.step {w : World} {base k : Nat} {da : Option Addr} {dc : Nat} {l : List DoneD} (h : TabK w base k da dc l) (hk : k < l.length) :
    ∃ g cur p, da = some ⟨g, 0, none⟩ ∧ base ≤ g ∧ g < w.heap.size ∧ w.heap[g]? = some (.cells cur 96 (0, 0)) ∧ w.cell? ⟨g, k * 6 + 5, none⟩ = some (.slice p.a l[k].rep.vars.length p.c) ∧ RepAt w l[k].rep p ∧
      ∀ (w' : World) (a' : Option Addr) (c' : Nat), Below w.heap.size w w' → OwnRows NumR 1 2 w' w.heap.size a' c' l[k].rep.vars → TabK (w'.setCell ⟨g, k * 6 + 5, none⟩ (.slice a' l[k].rep.vars.length c')) base (k + 1) da dc l := by
  obtain ⟨css, g, cur, h1, h2, h3, h4, h5⟩ := h.it
  rcases h4 with h4 | ⟨e1, e2, e3, e4, e5⟩
  · omega
  have hkc : k < css.length := by rw [h1.1]; exact hk
  obtain ⟨hlen6, p, hcs, hu8, hu64, hrep, hoff⟩ := h1.2 k hkc hk
  have hgl := (Array.getElem?_eq_some_iff.1 e3).1
  have hfl := flat_len 6 css h1.len
  have hcell : css.flatten[k * 6 + 5]? = some (.slice p.a l[k].rep.vars.length p.c) := by
    rw [flat_get 6 css h1.len k 5 hkc (by omega), hcs]
    simp [repCs]
  have hcur : cur[k * 6 + 5]? = some (.slice p.a l[k].rep.vars.length p.c) := by
    rw [← e5, List.getElem?_take] at hcell
    split at hcell
    · simpa using hcell
    · cases hcell
  refine ⟨g, cur, p, e1, e2, hgl, e3, by simp [World.cell?, e3, hcur], hrep, fun w' a' c' hb ho => ?_⟩
  have e3' : w'.heap[g]? = some (.cells cur 96 (0, 0)) := by rw [hb.block g hgl]; exact e3
  have hrows := ho.rows (by omega)
  have hgeq : ∀ i (hi : i < (css.set k (css[k].set 5 (.slice a' l[k].rep.vars.length c'))).length), (css.set k (css[k].set 5 (.slice a' l[k].rep.vars.length c')))[i] = if k = i then css[k].set 5 (.slice a' l[k].rep.vars.length c') else css[i]'(by simpa using hi) := fun i hi => List.getElem_set ..
  have hoff' : Off g a' l[k].rep.vars := by
    by_cases hl : l[k].rep.vars = []
    · exact .inl hl
    · refine .inr fun ad had hbg => ?_
      obtain ⟨cs0, r0, o0⟩ := ho
      obtain ⟨a2, cap2, hv, hl2, hn2, hm2, hx⟩ := o0
      simp at hv
      obtain ⟨rfl, rfl⟩ := hv
      have hpos : 0 < l[k].rep.vars.length := List.length_pos_iff.2 hl
      rcases hx with hx | ⟨g2, cur2, hx, hx2, _⟩
      · omega
      · rw [hx] at had
        cases had
        simp only at hbg
        omega
  refine ⟨css.set k (css[k].set 5 (.slice a' l[k].rep.vars.length c')), g, cur.setIfInBounds (k * 6 + 5) (.slice a' l[k].rep.vars.length c'), ⟨by simp [h1.1], fun i hi hi' => ?_⟩, h2, h3, .inr ⟨e1, e2, heap_setCell_same _ _ _ _ _ _ e3', by simp [e4], ?_⟩, fun i hi hi' hik => ?_⟩
  · have hi2 : i < css.length := by simpa using hi
    rw [hgeq i hi]
    by_cases hki : k = i
    · subst hki
      rw [if_pos rfl]
      refine ⟨by simp [hlen6], ⟨a', c'⟩, by rw [hcs]; simp [repCs], hu8, hu64, ⟨hrep.1, hrep.2.1, hrep.2.2.1, nums_set (show Nums w' a' _ from hrows.1) hoff' _ _, hrows.2.1, hrows.2.2⟩, hoff'⟩
    · rw [if_neg hki]
      exact ⟨(h1.2 i hi2 hi').1, ((h1.2 i hi2 hi').2.mono hb).set _ _⟩
  · rw [flat_set 6 css h1.len k 5 hkc (by omega), ← e5]
    simp [List.take_set]
  · have hi2 : i < css.length := by simpa using hi
    rw [hgeq i hi]
    by_cases hki : k = i
    · subst hki
      rw [if_pos rfl]
      refine ⟨a', c', by rw [hcs]; simp [repCs], ?_⟩
      obtain ⟨cs0, r0, o0⟩ := ho
      exact ownRows_set ⟨cs0, r0, o0.base (by omega)⟩ e3' (by decide) _ _ (fun _ _ h => h)
    · rw [if_neg hki]
      exact ((h5 i hi2 hi' (by omega)).mono hb).set e3' _ _
end Rg
end Go.Proofs.Ytdpmfjbhadapiaa
namespace Go.Proofs.Ytdpmfjbhadapiaa
open Go.RowKit
set_option linter.unusedVariables false
namespace Rg

section
variable {P : Program}
theorem code_gen {c : Code} {Q : Exit → Act → World → Prop} {a : Act} {w : World} (h : ∀ w', w' = w → c.wp P Q a w') : c.wp P Q a w := h _ rfl
theorem tail_gen {ops : Array Oper} {Q : Exit → Act → World → Prop} {t : List Nat} {a : Act} {w : World} (h : ∀ w', w' = w → wpTail P ops Q t a w') : wpTail P ops Q t a w := h _ rfl
end
theorem pair_0 (w : World) (a b : Obj) : ((w.alloc a).alloc b).heap[w.heap.size]? = some a := block_up (balloc (w.alloc a) b) (heap_alloc_new w a)
theorem pair_1 (w : World) (a b : Obj) : ((w.alloc a).alloc b).heap[w.heap.size + 1]? = some b := by
  have h := heap_alloc_new (w.alloc a) b
  rw [World.size_alloc] at h
  exact h
theorem cell_of {w : World} {g : Nat} {cs : Array Value} {t : TypeId} {fr : Nat × Nat} (h : w.heap[g]? = some (.cells cs t fr)) (i : Nat) {v : Value} (hv : cs[i]? = some v) : w.cell? ⟨g, i, none⟩ = some v := by
  simp [World.cell?, h, hv]
theorem froz_of {w : World} {g : Nat} {cs : Array Value} {t : TypeId} (h : w.heap[g]? = some (.cells cs t (0, 0))) (i : Nat) : w.frozen? ⟨g, i, none⟩ = false := by
  simp [World.frozen?, h]

/-- a row of the table as it came: its variables lie below B -/
def DoneB (B : Nat) (w : World) (cs : List Value) (d : DoneD) : Prop := ∃ p, cs = .int .u8 (d.client : Int) :: .int .u64 (d.seq : Int) :: repCs d.rep p ∧ U8 d.client ∧ U64 d.seq ∧ RepAt w d.rep p ∧ ∀ g, B ≤ g → Off g p.a d.rep.vars
theorem DoneR.b {w : World} {cs : List Value} {d : DoneD} (h : DoneR w cs d) : DoneB w.heap.size w cs d := let ⟨p, h1, h2, h3, h4⟩ := h; ⟨p, h1, h2, h3, h4, fun g hg => nums_off h4.2.2.2.1 hg⟩
theorem DoneB.mono {B : Nat} {w w' : World} {cs : List Value} {d : DoneD} (h : DoneB B w cs d) (hb : Below w.heap.size w w') : DoneB B w' cs d := let ⟨p, h1, h2, h3, h4, h5⟩ := h; ⟨p, h1, h2, h3, h4.mono hb, h5⟩
theorem dones_b {w : World} {a : Option Addr} {l : List DoneD} (h : Dones w a l) : Rows (DoneB w.heap.size) 6 w a l := by
  refine ⟨h.1, ?_⟩
  rcases h.2 with h | ⟨b, o, ha, hc⟩
  · exact .inl h
  · refine .inr ⟨b, o, ha, fun i hi => ?_⟩
    obtain ⟨cs, h1, h2, h3⟩ := hc i hi
    exact ⟨cs, h1, h2, h3.b⟩
theorem cloneDonesB (w : World) (B : Nat) (a : Option Addr) (cap : Nat) (l : List DoneD) (hl : Rows (DoneB B) 6 w a l) (hn : l.length ≤ 50) :
    Calls Try.prog 76 #[.slice a l.length cap] w (RetL (DoneB B) 6 96 w l) := by
  obtain ⟨css, h1, h2⟩ := rows_flat (R := DoneB B) (c := 6) (l := l) hl
  have hlen := flat_len 6 css h1.len
  rw [h1.1] at hlen
  refine (cloneDone_any w a l.length cap css.flatten hlen h2 (flat_one' h1 (by rintro w cs x ⟨p, rfl, _⟩ u hu; simp [repCs] at hu; rcases hu with rfl | rfl | rfl | rfl | rfl | rfl <;> rfl)) hn).mono ?_
  rintro en w1 ⟨⟨a', cap', rfl, ho⟩, b1⟩
  exact ⟨⟨a', cap', rfl, css, h1.mono (fun cs x h => h.mono b1), ho⟩, b1⟩
theorem TabK.start {w : World} {base B : Nat} {a : Option Addr} {cap : Nat} {l : List DoneD} (h : OwnRows (DoneB B) 6 96 w base a cap l) (hB : B ≤ base) : TabK w base 0 a cap l := by
  obtain ⟨css, h1, a2, cap2, hv, hl2, hn2, hm2, hx⟩ := h
  simp at hv
  obtain ⟨rfl, rfl⟩ := hv
  have dg : ∀ g, base ≤ g → RowsOf (DoneG g) 6 w css l := fun g hg => ⟨h1.1, fun i hi hi' => ⟨(h1.2 i hi hi').1, let ⟨p, q1, q2, q3, q4, q5⟩ := (h1.2 i hi hi').2; ⟨p, q1, q2, q3, q4, q5 g (by omega)⟩⟩⟩
  rcases hx with hx | ⟨g, cur, rfl, hb, hg, hc, ht⟩
  · exact ⟨css, base, #[], dg base (Nat.le_refl _), hn2, hm2, .inl hx, fun i _ _ h => by omega⟩
  · exact ⟨css, g, cur, dg g hb, hn2, hm2, .inr ⟨rfl, hb, hg, hc, ht⟩, fun i _ _ h => by omega⟩
theorem TabK.rows {w : World} {base k : Nat} {a : Option Addr} {cap : Nat} {l : List DoneD} (h : TabK w base k a cap l) : Dones w a l ∧ l.length ≤ cap ∧ cap ≤ maxLen := by
  obtain ⟨css, g, cur, h1, h2, h3, h4, _⟩ := h.it
  have hR : RowsOf DoneR 6 w css l := ⟨h1.1, fun i hi hi' => ⟨(h1.2 i hi hi').1, (h1.2 i hi hi').2.doneR⟩⟩
  have hl := flat_len 6 css h1.len
  rw [h1.1] at hl
  refine ⟨flat_rows (by omega) (by omega) hR ?_, h2, h3⟩
  have : Own w base 96 6 (.slice a l.length cap) l.length css.flatten := by
    refine ⟨a, cap, rfl, hl, h2, h3, ?_⟩
    rcases h4 with h4 | ⟨e1, e2, e3, e4, e5⟩
    · exact .inl h4
    · exact .inr ⟨g, cur, e1, e2, e3, e4, e5⟩
  exact this.cells

theorem TabK.base {w : World} {base base' k : Nat} {a : Option Addr} {cap : Nat} {l : List DoneD} (h : TabK w base k a cap l) (hb : base' ≤ base) : TabK w base' k a cap l := by
  obtain ⟨css, g, cur, h1, h2, h3, h4, h5⟩ := h.it
  refine ⟨css, g, cur, h1, h2, h3, ?_, fun i hi hi' hk => let ⟨a, c, e, css0, q1, q2⟩ := h5 i hi hi' hk; ⟨a, c, e, css0, q1, q2.base hb⟩⟩
  rcases h4 with h4 | ⟨e1, e2, e3, e4, e5⟩
  · exact .inl h4
  · exact .inr ⟨e1, by omega, e3, e4, e5⟩
/-- a register whose lists the call owns -/
structure RegOwn (w : World) (base : Nat) (r : RegD) (q : RegA) : Prop where
  reg : RegAt w r q
  vars : OwnRows NumR 1 2 w base q.va q.vc r.vars
  out : OwnRows CellR 4 47 w base q.oa q.oc r.out
  marks : OwnRows MarkR 3 69 w base q.ma q.mc r.marks
  done : TabK w base r.done.length q.da q.dc r.done
def RetR (w : World) (r : RegD) (e : Ending) (w' : World) : Prop := (∃ q, e = .returned (.agg (regCs r q).toArray) ∧ RegOwn w' w.heap.size r q) ∧ Below w.heap.size w w'

theorem DoneB.set {B : Nat} {w : World} {cs : List Value} {d : DoneD} (h : DoneB B w cs d) {g : Nat} (hg : B ≤ g) (i : Nat) (u : Value) : DoneB B (w.setCell ⟨g, i, none⟩ u) cs d :=
  let ⟨p, h1, h2, h3, h4, h5⟩ := h; ⟨p, h1, h2, h3, ⟨h4.1, h4.2.1, h4.2.2.1, nums_set h4.2.2.2.1 (h5 g hg) i u, h4.2.2.2.2⟩, h5⟩
theorem ownRows_base {α : Type} {R : World → List Value → α → Prop} {c : Nat} {e : TypeId} {w : World} {base base' : Nat} {a : Option Addr} {cap : Nat} {l : List α} (h : OwnRows R c e w base a cap l) (hb : base' ≤ base) : OwnRows R c e w base' a cap l := by
  obtain ⟨css, h1, h2⟩ := h
  exact ⟨css, h1, h2.base hb⟩
theorem below_set {B : Nat} {w w' : World} (hb : Below B w w') {g : Nat} (hg : B ≤ g) (i : Nat) (v : Value) : Below B w (w'.setCell ⟨g, i, none⟩ v) :=
  hb.trans ⟨rfl, rfl, rfl, by simp [World.setCell], fun k hk => Below.heap_setCell w' ⟨g, i, none⟩ v k (by simp; omega)⟩

/-- what holds in reg.Clone's loop -/
structure CloI (w wr : World) (r : RegD) (va : Option Addr) (vc : Nat) (da : Option Addr) (dc : Nat) (oa : Option Addr) (oc : Nat) (ma : Option Addr) (mc : Nat) (k : Nat) : Prop where
  blk : wr.heap[w.heap.size]? = some (.cells (regCs r ⟨va, vc, da, dc, oa, oc, ma, mc⟩).toArray 51 (0, 0))
  res : wr.heap[w.heap.size + 1]? = some (.cells (regCs zeroReg zeroRegA).toArray 51 (0, 0))
  vars : OwnRows NumR 1 2 wr (w.heap.size + 2) va vc r.vars
  out : OwnRows CellR 4 47 wr (w.heap.size + 2) oa oc r.out
  marks : OwnRows MarkR 3 69 wr (w.heap.size + 2) ma mc r.marks
  tab : TabK wr (w.heap.size + 2) k da dc r.done
  below : Below w.heap.size w wr
theorem CloI.up {w wr w' : World} {r : RegD} {va : Option Addr} {vc : Nat} {da : Option Addr} {dc : Nat} {oa : Option Addr} {oc : Nat} {ma : Option Addr} {mc k : Nat} (h : CloI w wr r va vc da dc oa oc ma mc k) (hb : Below wr.heap.size wr w') : CloI w w' r va vc da dc oa oc ma mc k :=
  ⟨block_up hb h.blk, block_up hb h.res, ownNum_mono h.vars hb, OwnRows.mono (R := CellR) (w := wr) (w' := w') (fun _ _ h => h) hb h.out, OwnRows.mono (R := MarkR) (w := wr) (w' := w') (fun _ _ h => h) hb h.marks, h.tab.mono hb, bthen h.below hb⟩
theorem CloI.set {w wr : World} {r : RegD} {va : Option Addr} {vc : Nat} {da : Option Addr} {dc : Nat} {oa : Option Addr} {oc : Nat} {ma : Option Addr} {mc k k' : Nat} (h : CloI w wr r va vc da dc oa oc ma mc k) {g : Nat} {cur : Array Value} (hg : wr.heap[g]? = some (.cells cur 96 (0, 0))) (hs : w.heap.size + 2 ≤ g) (i : Nat) (v : Value)
    (ht : TabK (wr.setCell ⟨g, i, none⟩ v) (w.heap.size + 2) k' da dc r.done) : CloI w (wr.setCell ⟨g, i, none⟩ v) r va vc da dc oa oc ma mc k' :=
  ⟨by rw [heap_setCell_other _ _ _ _ (by simp only; omega)]; exact h.blk, by rw [heap_setCell_other _ _ _ _ (by simp only; omega)]; exact h.res,
   ownRows_set h.vars hg (by decide) _ _ (fun _ _ h => h), ownRows_set h.out hg (by decide) _ _ (fun _ _ h => h), ownRows_set h.marks hg (by decide) _ _ (fun _ _ h => h), ht, below_set h.below (by omega) _ _⟩

/-- what the call owns is kept where no block from its base on is written -/
theorem own_from {w w' : World} {base : Nat} {e : TypeId} {size : Nat} {v : Value} {n : Nat} {xs : List Value} (h : Own w base e size v n xs) (hk : ∀ b, base ≤ b → b < w.heap.size → w'.heap[b]? = w.heap[b]?) : Own w' base e size v n xs := by
  obtain ⟨a, cap, rfl, hl, hn, hm, h⟩ := h
  refine ⟨a, cap, rfl, hl, hn, hm, ?_⟩
  rcases h with h0 | ⟨g, cur, rfl, hb, hgg, hc, ht⟩
  · exact .inl h0
  · exact .inr ⟨g, cur, rfl, hb, by rw [hk g hb (Array.getElem?_eq_some_iff.1 hgg).1]; exact hgg, hc, ht⟩
theorem ownRows_from {α : Type} {R : World → List Value → α → Prop} {c : Nat} {e : TypeId} {w w' : World} {base : Nat} {a : Option Addr} {cap : Nat} {l : List α} (h : OwnRows R c e w base a cap l) (hR : ∀ cs x, R w cs x → R w' cs x) (hk : ∀ b, base ≤ b → b < w.heap.size → w'.heap[b]? = w.heap[b]?) : OwnRows R c e w' base a cap l := by
  obtain ⟨css, h1, h2⟩ := h
  exact ⟨css, h1.mono hR, own_from h2 hk⟩
theorem TabK.from {w w' : World} {base : Nat} {a : Option Addr} {cap : Nat} {l : List DoneD} (h : TabK w base l.length a cap l) (hk : ∀ b, base ≤ b → b < w.heap.size → w'.heap[b]? = w.heap[b]?) : TabK w' base l.length a cap l := by
  obtain ⟨css, g, cur, h1, h2, h3, h4, h5⟩ := h.it
  have h5' : ∀ i (h : i < css.length) (h' : i < l.length), i < l.length → DoneO w' base css[i] l[i] := fun i hi hi' hk' =>
    let ⟨a, c, e, q⟩ := h5 i hi hi' hk'; ⟨a, c, e, ownRows_from q (fun _ _ h => h) hk⟩
  refine ⟨css, g, cur, ⟨h1.1, fun i hi hi' => ⟨(h1.2 i hi hi').1, ?_⟩⟩, h2, h3, ?_, h5'⟩
  · obtain ⟨p, q1, q2, q3, q4, q5⟩ := (h1.2 i hi hi').2
    obtain ⟨a2, c2, e2, o2⟩ := h5' i hi hi' hi'
    rw [q1] at e2
    simp [repCs] at e2
    obtain ⟨pa, pc⟩ := p
    simp only at e2 q5
    obtain ⟨rfl, rfl⟩ := e2
    have hr := o2.rows (by omega)
    exact ⟨⟨pa, pc⟩, q1, q2, q3, ⟨q4.1, q4.2.1, q4.2.2.1, hr.1, hr.2.1, hr.2.2⟩, q5⟩
  · rcases h4 with h4 | ⟨e1, e2, e3, e4, e5⟩
    · exact .inl h4
    · exact .inr ⟨e1, e2, by rw [hk g e2 (Array.getElem?_eq_some_iff.1 e3).1]; exact e3, e4, e5⟩

theorem RegOwn.of {w : World} {base : Nat} {r : RegD} {va : Option Addr} {vc : Nat} {da : Option Addr} {dc : Nat} {oa : Option Addr} {oc : Nat} {ma : Option Addr} {mc : Nat} (hk : U8 r.kind) (hi : U64 r.inc) (hs : I64 r.state) (hl : U64 r.last)
    (hv : OwnRows NumR 1 2 w base va vc r.vars) (ho : OwnRows CellR 4 47 w base oa oc r.out) (hm : OwnRows MarkR 3 69 w base ma mc r.marks) (ht : TabK w base r.done.length da dc r.done) : RegOwn w base r ⟨va, vc, da, dc, oa, oc, ma, mc⟩ :=
  have v := hv.rows (by omega)
  have o := ho.rows (by omega)
  have m := hm.rows (by omega)
  ⟨⟨hk, hi, hs, hl, v.1, ht.rows.1, o.1, m.1, v.2, ht.rows.2, o.2, m.2⟩, hv, ho, hm, ht⟩
theorem RegOwn.from {w w' : World} {base : Nat} {r : RegD} {q : RegA} (h : RegOwn w base r q) (hk : ∀ b, base ≤ b → b < w.heap.size → w'.heap[b]? = w.heap[b]?) : RegOwn w' base r q :=
  RegOwn.of h.reg.kind h.reg.inc h.reg.state h.reg.last (ownRows_from h.vars (fun _ _ h => h) hk) (ownRows_from h.out (fun _ _ h => h) hk) (ownRows_from h.marks (fun _ _ h => h) hk) (h.done.from hk)
theorem RegOwn.base {w : World} {base base' : Nat} {r : RegD} {q : RegA} (h : RegOwn w base r q) (hb : base' ≤ base) : RegOwn w base' r q :=
  ⟨h.reg, ownRows_base h.vars hb, ownRows_base h.out hb, ownRows_base h.marks hb, h.done.base hb⟩
theorem reg_info : (Try.prog.info? 51).map (·.size) = some 8 := by kernel_rfl
theorem reg_one (r : RegD) (q : RegA) : (regCs r q).toArray.all (·.oneCell') = true := by simp [regCs, Value.oneCell']

end Rg
end Go.Proofs.Ytdpmfjbhadapiaa
namespace Go.Proofs.Ytdpmfjbhadapiaa
open Go.RowKit
set_option linter.unusedVariables false
namespace Rg

set_option maxRecDepth 10000 in
set_option maxHeartbeats 1600000 in
theorem regClone_any (w : World) (r : RegD) (p : RegA) (h : RegAt w r p) (hg : greatS r = false) : Calls Try.prog 50 #[.agg (regCs r p).toArray] w (RetR w r) := by
  have BA := Lib.hid (fun w o => balloc w o)
  have LL := Lib.hid (great_lens hg)
  have H := Lib.hid h
  clear h hg
  have P0 := Lib.hid (pair_0 w (.cells (regCs r p).toArray 51 (0, 0)) (.cells (regCs zeroReg zeroRegA).toArray 51 (0, 0)))
  have P1 := Lib.hid (pair_1 w (.cells (regCs r p).toArray 51 (0, 0)) (.cells (regCs zeroReg zeroRegA).toArray 51 (0, 0)))
  unfold RetR
  go_enter Try.func50, Try.ntmps50
  go_wp2_with fail
  refine code_gen ?_
  intro w2 hw2
  have z0 : Hid (w2.heap[w.heap.size]? = some (.cells (regCs r p).toArray 51 (0, 0))) := Lib.hid (by rw [hw2]; exact P0.out)
  have z1 : Hid (w2.heap[w.heap.size + 1]? = some (.cells (regCs zeroReg zeroRegA).toArray 51 (0, 0))) := Lib.hid (by rw [hw2]; exact P1.out)
  have b2 : Hid (Below w.heap.size w w2) := Lib.hid (by rw [hw2]; exact bthen (BA.out w _) (BA.out _ _))
  have hs2 : w2.heap.size = w.heap.size + 2 := by rw [hw2]; simp
  clear hw2 P0 P1
  have f3 := fun n : ExtW w2.heap.size w2.drew => cell_up (bthen (below_dr w2 1) n.h) (cell_of z0.out 3 (v := .slice p.va r.vars.length p.vc) rfl)
  have f4 := fun n : ExtW w2.heap.size w2.drew => cell_up (bthen (below_dr w2 1) n.h) (cell_of z0.out 4 (v := .slice p.da r.done.length p.dc) rfl)
  have f5 := fun n : ExtW w2.heap.size w2.drew => cell_up (bthen (below_dr w2 1) n.h) (cell_of z0.out 5 (v := .slice p.oa r.out.length p.oc) rfl)
  have f7 := fun n : ExtW w2.heap.size w2.drew => cell_up (bthen (below_dr w2 1) n.h) (cell_of z0.out 7 (v := .slice p.ma r.marks.length p.mc) rfl)
  refine wp_region_upt [(0, false), (1, false), (3, false), (4, false), (6, false), (7, false), (9, false), (10, false), (2, true), (12, false), (5, true), (8, true), (11, true)] [13, 14, 15, 16, 17, 18, 19] w2.heap.size (by kernel_rfl) (by kernel_rfl) ?_
  repeat
    refine wpUp_pure (by rfl) (by rfl) (by rfl) (fun K hK => ?_)
    conv => arg 2; whnf
    go_big_quiet_op
    refine hK _ ?_
    clear hK K
  have bd := Lib.hid (bthen b2.out (below_dr w2 1))
  have hb2 := Lib.hid (below_dr w2 1)
  clear f3 f4 f5 f7
  refine wpUp_call (by rfl) (by rfl) (Nat.le_refl _) (fun K hK => ?_)
  conv => arg 2; whnf
  go_simp
  refine (cloneInts _ p.va p.vc r.vars (H.out.vars.mono bd.out) LL.out.1).mono ?_
  rintro e w3 ⟨⟨va, vc, rfl, ov⟩, b3⟩
  refine hK _ _ b3 ?_
  clear hK K
  repeat
    refine wpUp_pure (by rfl) (by rfl) (by rfl) (fun K hK => ?_)
    conv => arg 2; whnf
    go_big_quiet_op
    refine hK _ ?_
    clear hK K
  refine wpUp_call (by rfl) (by rfl) (Nat.le_refl _) (fun K hK => ?_)
  conv => arg 2; whnf
  go_simp
  refine (cloneCells _ p.oa p.oc r.out (H.out.out.mono (bthen bd.out b3)) LL.out.2.2.1).mono ?_
  rintro e w4 ⟨⟨oa, oc, rfl, oo⟩, b4⟩
  refine hK _ _ b4 ?_
  clear hK K
  refine wpUp_call (by rfl) (by rfl) (Nat.le_refl _) (fun K hK => ?_)
  conv => arg 2; whnf
  go_simp
  refine (cloneMarks _ p.ma p.mc r.marks (H.out.marks.mono (bthen (bthen bd.out b3) b4)) LL.out.2.2.2.1).mono ?_
  rintro e w5 ⟨⟨ma, mc, rfl, om⟩, b5⟩
  refine hK _ _ b5 ?_
  clear hK K
  refine wpUp_call (by rfl) (by rfl) (Nat.le_refl _) (fun K hK => ?_)
  conv => arg 2; whnf
  go_simp
  refine (cloneDonesB _ w.heap.size p.da p.dc r.done (Rows.mono (fun _ _ h => h.mono (bthen (bthen (bthen bd.out b3) b4) b5)) (bthen (bthen (bthen bd.out b3) b4) b5) (dones_b H.out.done)) LL.out.2.1).mono ?_
  rintro e w6 ⟨⟨da, dc, rfl, od⟩, b6⟩
  refine hK _ _ b6 ?_
  clear hK K
  have Y0 := block_up b6 (block_up b5 (block_up b4 (block_up b3 (block_up hb2.out z0.out))))
  have Y1 := Lib.hid (block_up b6 (block_up b5 (block_up b4 (block_up b3 (block_up hb2.out z1.out)))))
  have b26 := Lib.hid (bthen (bthen (bthen (bthen bd.out b3) b4) b5) b6)
  have c3 := cell_of Y0 3 (v := .slice p.va r.vars.length p.vc) rfl
  have c4 := cell_of Y0 4 (v := .slice p.da r.done.length p.dc) rfl
  have c5 := cell_of Y0 5 (v := .slice p.oa r.out.length p.oc) rfl
  have c7 := cell_of Y0 7 (v := .slice p.ma r.marks.length p.mc) rfl
  have r3 := froz_of Y0 3
  have r4 := froz_of Y0 4
  have r5 := froz_of Y0 5
  have r7 := froz_of Y0 7
  refine wpUp_tail ?_
  iterate 7
    refine wpTail_step (by rfl) (by rfl) (fun K hK => ?_)
    conv => arg 2; whnf
    go_simp
    refine hK _ _ ?_
    clear hK K
  clear c3 c4 c5 c7 r3 r4 r5 r7
  refine tail_gen ?_
  intro w7 hw7
  have I0 : Hid (CloI w w7 r va vc da dc oa oc ma mc 0) := by
    refine Lib.hid ?_
    rw [hw7]
    have hs := hs2
    have s3 : w2.heap.size ≤ w3.heap.size := b3.size
    have s4 := b4.size
    have s5 := b5.size
    have s6 := b6.size
    have G1 := heap_setCell_same w6 w.heap.size 3 _ _ (.slice va r.vars.length vc) Y0
    have G2 := heap_setCell_same _ w.heap.size 5 _ _ (.slice oa r.out.length oc) G1
    have G3 := heap_setCell_same _ w.heap.size 7 _ _ (.slice ma r.marks.length mc) G2
    have G4 := heap_setCell_same _ w.heap.size 4 _ _ (.slice da r.done.length dc) G3
    have ov6 := ownRows_base (ownNum_mono ov (bthen (bthen b4 b5) b6)) (show w.heap.size + 2 ≤ w2.heap.size by omega)
    have oo6 := ownRows_base (OwnRows.mono (R := CellR) (w := w4) (w' := w6) (fun _ _ h => h) (bthen b5 b6) oo) (show w.heap.size + 2 ≤ w3.heap.size by omega)
    have om6 := ownRows_base (OwnRows.mono (R := MarkR) (w := w5) (w' := w6) (fun _ _ h => h) b6 om) (show w.heap.size + 2 ≤ w4.heap.size by omega)
    have od6 := ownRows_base od (show w.heap.size + 2 ≤ w5.heap.size by omega)
    refine ⟨G4, ?_, ?_, ?_, ?_, ?_, ?_⟩
    · rw [heap_setCell_other _ _ _ _ (by simp), heap_setCell_other _ _ _ _ (by simp), heap_setCell_other _ _ _ _ (by simp), heap_setCell_other _ _ _ _ (by simp)]
      exact Y1.out
    · exact ownRows_set (ownRows_set (ownRows_set (ownRows_set ov6 Y0 (by decide) _ _ (fun _ _ h => h)) G1 (by decide) _ _ (fun _ _ h => h)) G2 (by decide) _ _ (fun _ _ h => h)) G3 (by decide) _ _ (fun _ _ h => h)
    · exact ownRows_set (ownRows_set (ownRows_set (ownRows_set oo6 Y0 (by decide) _ _ (fun _ _ h => h)) G1 (by decide) _ _ (fun _ _ h => h)) G2 (by decide) _ _ (fun _ _ h => h)) G3 (by decide) _ _ (fun _ _ h => h)
    · exact ownRows_set (ownRows_set (ownRows_set (ownRows_set om6 Y0 (by decide) _ _ (fun _ _ h => h)) G1 (by decide) _ _ (fun _ _ h => h)) G2 (by decide) _ _ (fun _ _ h => h)) G3 (by decide) _ _ (fun _ _ h => h)
    · exact TabK.start (B := w.heap.size) (ownRows_set (ownRows_set (ownRows_set (ownRows_set od6 Y0 (by decide) _ _ (fun _ _ h => h.set (Nat.le_refl _) _ _)) G1 (by decide) _ _ (fun _ _ h => h.set (Nat.le_refl _) _ _)) G2 (by decide) _ _ (fun _ _ h => h.set (Nat.le_refl _) _ _)) G3 (by decide) _ _ (fun _ _ h => h.set (Nat.le_refl _) _ _)) (by omega)
    · exact below_set (below_set (below_set (below_set b26.out (Nat.le_refl _) _ _) (Nat.le_refl _) _ _) (Nat.le_refl _) _ _) (Nat.le_refl _) _ _
  clear hw7 Y0 Y1 b26 ov oo om od b3 b4 b5 b6 z0 z1 b2 bd hb2 hs2
  refine wpTail_nil ?_
  have cl := cell_of I0.out.blk 4 (v := .slice da r.done.length dc) rfl
  have hn50 := LL.out.2.1
  go_wp2_with fail
  clear cl
  go_loopw [23] (fun i wr => ∃ k : Nat, k ≤ r.done.length ∧ i = .int .i64 k ∧ Hid (CloI w wr r va vc da dc oa oc ma mc k)) (fun i _ => r.done.length - (intOf i).toNat)
  case atStart => exact ⟨0, Nat.zero_le _, rfl, I0⟩
  case round =>
    clear I0
    obtain ⟨k, hk, rfl, I⟩ := hrel
    by_cases hlt : k < r.done.length
    · obtain ⟨g, cur, pk, rfl, hbg, hgl, e3, hcell, hrep, step⟩ := (I.out.up (below_dr wr 1)).tab.step hlt
      have f4 := fun n : ExtW wr.heap.size wr.drew => cell_up n.h (cell_of (I.out.up (below_dr wr 1)).blk 4 (v := .slice (some ⟨g, 0, none⟩) r.done.length dc) rfl)
      have f5 := fun n : ExtW wr.heap.size wr.drew => cell_up n.h hcell
      have STEP := Lib.hid step
      have HREP := Lib.hid hrep
      have E3 := Lib.hid e3
      have HC := Lib.hid hcell
      clear step hrep e3 hcell
      have hv50 := LL.out.2.2.2.2 _ (List.getElem_mem hlt)
      have i0 : (0 : Int) ≤ (k : Int) := by omega
      have i1 : (k : Int) < (r.done.length : Int) := by omega
      go_wp2_with fail
      refine wp_region_upt [(0, false), (1, false), (2, false), (3, false), (4, false), (5, false), (6, false), (7, false), (8, false), (9, false), (10, true)] [11, 12, 13, 14] wr.heap.size (by kernel_rfl) (by kernel_rfl) ?_
      repeat
        refine wpUp_pure (by rfl) (by rfl) (by rfl) (fun K hK => ?_)
        conv => arg 2; whnf
        go_big_quiet_op
        refine hK _ ?_
        clear hK K
      refine wpUp_call (by rfl) (by rfl) (Nat.le_refl _) (fun K hK => ?_)
      conv => arg 2; whnf
      go_simp
      refine (cloneInts _ pk.a pk.c _ HREP.out.2.2.2.1 hv50).mono ?_
      rintro e w9 ⟨⟨a', c', rfl, oa'⟩, b9⟩
      refine hK _ _ b9 ?_
      clear hK K f4 f5
      have e9 := block_up b9 E3.out
      have c9 := cell_up b9 HC.out
      have r9 := froz_of e9 (k * 6 + 5)
      have I9 := Lib.hid (((I.out.up (below_dr wr 1)).up b9).set e9 hbg (k * 6 + 5) _ (STEP.out w9 a' c' b9 oa'))
      clear STEP HREP E3 HC oa' e9 I b9
      refine wpUp_tail ?_
      iterate 4
        refine wpTail_step (by rfl) (by rfl) (fun K hK => ?_)
        conv => arg 2; whnf
        go_simp
        refine hK _ _ ?_
        clear hK K
      refine wpTail_nil ?_
      go_wp2_with fail
      go_roundw
      case rel => exact ⟨k + 1, by omega, by go_num, I9⟩
      case measure => simp [intOf]; omega
    · obtain rfl : k = r.done.length := by omega
      go_wp2_with (first
        | (refine wpList_load_row rfl 51 (.tmp 1) rfl w.heap.size rfl 51 (regCs r ⟨va, vc, da, dc, oa, oc, ma, mc⟩).toArray _ _ I.out.blk Try.underlying51 rfl reg_info ?_)
        | (refine wpList_store_row rfl 51 (.tmp 2) (.tmp 41) rfl (w.heap.size + 1) (regCs r ⟨va, vc, da, dc, oa, oc, ma, mc⟩).toArray (by rfl) (by rfl) 51 (regCs zeroReg zeroRegA).toArray I.out.res reg_info rfl (reg_one _ _) ?_))
      refine bodyPost_ret (results_cell_row rfl _ _ _ _ (regCs r ⟨va, vc, da, dc, oa, oc, ma, mc⟩).toArray _ _ rfl (setRow_heap _ _ _ (regCs r ⟨va, vc, da, dc, oa, oc, ma, mc⟩).toArray _ _ I.out.res) Try.underlying51 rfl reg_info) rfl ⟨⟨⟨va, vc, da, dc, oa, oc, ma, mc⟩, rfl, ?_⟩, ?_⟩
      · exact (RegOwn.of H.out.kind H.out.inc H.out.state H.out.last I.out.vars I.out.out I.out.marks I.out.tab).from (fun b hb _ => setRow_other _ _ _ _ (by omega)) |>.base (by omega)
      · exact below_row I.out.below (by omega) _
end Rg
end Go.Proofs.Ytdpmfjbhadapiaa
