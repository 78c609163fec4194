/- The walk of reg.Clone. Conditions: the register can be read, and its lists are short. -/
import Derived.Test.YtiaogfjmhpkcmaaCloD
import Derived.Test.YtiaogfjmhpkcmaaEraB
import Derived.Test.YtiaogfjmhpkcmaaEraV
import Derived.Test.YtiaogfjmhpkcmaaUpT
namespace Go.Proofs.Ytiaogfjmhpkcmaa
open Go.RowKit
set_option linter.unusedVariables false
namespace Rg

section
variable {P : Program}
theorem code_gen {c : Code} {Q : Exit → Act → World → Prop} {a : Act} {w : World} (h : ∀ w', w' = w → c.wp P Q a w') : c.wp P Q a w := h _ rfl
theorem tail_gen {ops : Array Oper} {Q : Exit → Act → World → Prop} {t : List Nat} {a : Act} {w : World} (h : ∀ w', w' = w → wpTail P ops Q t a w') : wpTail P ops Q t a w := h _ rfl
end
theorem pair_0 (w : World) (a b : Obj) : ((w.alloc a).alloc b).heap[w.heap.size]? = some a := block_up (balloc (w.alloc a) b) (heap_alloc_new w a)
theorem pair_1 (w : World) (a b : Obj) : ((w.alloc a).alloc b).heap[w.heap.size + 1]? = some b := by
  have h := heap_alloc_new (w.alloc a) b
  rw [World.size_alloc] at h
  exact h
theorem cell_of {w : World} {g : Nat} {cs : Array Value} {t : TypeId} {fr : Nat × Nat} (h : w.heap[g]? = some (.cells cs t fr)) (i : Nat) {v : Value} (hv : cs[i]? = some v) : w.cell? ⟨g, i, none⟩ = some v := by
  simp [World.cell?, h, hv]
theorem froz_of {w : World} {g : Nat} {cs : Array Value} {t : TypeId} (h : w.heap[g]? = some (.cells cs t (0, 0))) (i : Nat) : w.frozen? ⟨g, i, none⟩ = false := by
  simp [World.frozen?, h]

/-- a row of the table as it came: its variables lie below B -/
def DoneB (B : Nat) (w : World) (cs : List Value) (d : DoneD) : Prop := ∃ p, cs = .int .u8 (d.client : Int) :: .int .u64 (d.seq : Int) :: repCs d.rep p ∧ U8 d.client ∧ U64 d.seq ∧ RepAt w d.rep p ∧ ∀ g, B ≤ g → Off g p.a d.rep.vars
theorem DoneR.b {w : World} {cs : List Value} {d : DoneD} (h : DoneR w cs d) : DoneB w.heap.size w cs d := let ⟨p, h1, h2, h3, h4⟩ := h; ⟨p, h1, h2, h3, h4, fun g hg => nums_off h4.2.2.2.1 hg⟩
theorem DoneB.mono {B : Nat} {w w' : World} {cs : List Value} {d : DoneD} (h : DoneB B w cs d) (hb : Below w.heap.size w w') : DoneB B w' cs d := let ⟨p, h1, h2, h3, h4, h5⟩ := h; ⟨p, h1, h2, h3, h4.mono hb, h5⟩
theorem dones_b {w : World} {a : Option Addr} {l : List DoneD} (h : Dones w a l) : Rows (DoneB w.heap.size) 6 w a l := by
  refine ⟨h.1, ?_⟩
  rcases h.2 with h | ⟨b, o, ha, hc⟩
  · exact .inl h
  · refine .inr ⟨b, o, ha, fun i hi => ?_⟩
    obtain ⟨cs, h1, h2, h3⟩ := hc i hi
    exact ⟨cs, h1, h2, h3.b⟩
theorem cloneDonesB (w : World) (B : Nat) (a : Option Addr) (cap : Nat) (l : List DoneD) (hl : Rows (DoneB B) 6 w a l) (hn : l.length ≤ 50) :
    Calls Try.prog 45 #[.slice a l.length cap] w (RetL (DoneB B) 6 66 w l) := by
  obtain ⟨css, h1, h2⟩ := rows_flat (R := DoneB B) (c := 6) (l := l) hl
  have hlen := flat_len 6 css h1.len
  rw [h1.1] at hlen
  refine (cloneDone_any w a l.length cap css.flatten hlen h2 (flat_one' h1 (by rintro w cs x ⟨p, rfl, _⟩ u hu; simp [repCs] at hu; rcases hu with rfl | rfl | rfl | rfl | rfl | rfl <;> rfl)) hn).mono ?_
  rintro en w1 ⟨⟨a', cap', rfl, ho⟩, b1⟩
  exact ⟨⟨a', cap', rfl, css, h1.mono (fun cs x h => h.mono b1), ho⟩, b1⟩
theorem TabK.start {w : World} {base B : Nat} {a : Option Addr} {cap : Nat} {l : List DoneD} (h : OwnRows (DoneB B) 6 66 w base a cap l) (hB : B ≤ base) : TabK w base 0 a cap l := by
  obtain ⟨css, h1, a2, cap2, hv, hl2, hn2, hm2, hx⟩ := h
  simp at hv
  obtain ⟨rfl, rfl⟩ := hv
  have dg : ∀ g, base ≤ g → RowsOf (DoneG g) 6 w css l := fun g hg => ⟨h1.1, fun i hi hi' => ⟨(h1.2 i hi hi').1, let ⟨p, q1, q2, q3, q4, q5⟩ := (h1.2 i hi hi').2; ⟨p, q1, q2, q3, q4, q5 g (by omega)⟩⟩⟩
  rcases hx with hx | ⟨g, cur, rfl, hb, hg, hc, ht⟩
  · exact ⟨css, base, #[], dg base (Nat.le_refl _), hn2, hm2, .inl hx, fun i _ _ h => by omega⟩
  · exact ⟨css, g, cur, dg g hb, hn2, hm2, .inr ⟨rfl, hb, hg, hc, ht⟩, fun i _ _ h => by omega⟩
theorem TabK.rows {w : World} {base k : Nat} {a : Option Addr} {cap : Nat} {l : List DoneD} (h : TabK w base k a cap l) : Dones w a l ∧ l.length ≤ cap ∧ cap ≤ maxLen := by
  obtain ⟨css, g, cur, h1, h2, h3, h4, _⟩ := h.it
  have hR : RowsOf DoneR 6 w css l := ⟨h1.1, fun i hi hi' => ⟨(h1.2 i hi hi').1, (h1.2 i hi hi').2.doneR⟩⟩
  have hl := flat_len 6 css h1.len
  rw [h1.1] at hl
  refine ⟨flat_rows (by omega) (by omega) hR ?_, h2, h3⟩
  have : Own w base 66 6 (.slice a l.length cap) l.length css.flatten := by
    refine ⟨a, cap, rfl, hl, h2, h3, ?_⟩
    rcases h4 with h4 | ⟨e1, e2, e3, e4, e5⟩
    · exact .inl h4
    · exact .inr ⟨g, cur, e1, e2, e3, e4, e5⟩
  exact this.cells

theorem TabK.base {w : World} {base base' k : Nat} {a : Option Addr} {cap : Nat} {l : List DoneD} (h : TabK w base k a cap l) (hb : base' ≤ base) : TabK w base' k a cap l := by
  obtain ⟨css, g, cur, h1, h2, h3, h4, h5⟩ := h.it
  refine ⟨css, g, cur, h1, h2, h3, ?_, fun i hi hi' hk => let ⟨a, c, e, css0, q1, q2⟩ := h5 i hi hi' hk; ⟨a, c, e, css0, q1, q2.base hb⟩⟩
  rcases h4 with h4 | ⟨e1, e2, e3, e4, e5⟩
  · exact .inl h4
  · exact .inr ⟨e1, by omega, e3, e4, e5⟩
/-- a register whose lists the call owns -/
structure RegOwn (w : World) (base : Nat) (r : RegD) (q : RegA) : Prop where
  reg : RegAt w r q
  vars : OwnRows NumR 1 2 w base q.va q.vc r.vars
  out : OwnRows CellR 4 68 w base q.oa q.oc r.out
  marks : OwnRows MarkR 3 30 w base q.ma q.mc r.marks
  done : TabK w base r.done.length q.da q.dc r.done
def RetR (w : World) (r : RegD) (e : Ending) (w' : World) : Prop := (∃ q, e = .returned (.agg (regCs r q).toArray) ∧ RegOwn w' w.heap.size r q) ∧ Below w.heap.size w w'

theorem DoneB.set {B : Nat} {w : World} {cs : List Value} {d : DoneD} (h : DoneB B w cs d) {g : Nat} (hg : B ≤ g) (i : Nat) (u : Value) : DoneB B (w.setCell ⟨g, i, none⟩ u) cs d :=
  let ⟨p, h1, h2, h3, h4, h5⟩ := h; ⟨p, h1, h2, h3, ⟨h4.1, h4.2.1, h4.2.2.1, nums_set h4.2.2.2.1 (h5 g hg) i u, h4.2.2.2.2⟩, h5⟩
theorem ownRows_base {α : Type} {R : World → List Value → α → Prop} {c : Nat} {e : TypeId} {w : World} {base base' : Nat} {a : Option Addr} {cap : Nat} {l : List α} (h : OwnRows R c e w base a cap l) (hb : base' ≤ base) : OwnRows R c e w base' a cap l := by
  obtain ⟨css, h1, h2⟩ := h
  exact ⟨css, h1, h2.base hb⟩
theorem below_set {B : Nat} {w w' : World} (hb : Below B w w') {g : Nat} (hg : B ≤ g) (i : Nat) (v : Value) : Below B w (w'.setCell ⟨g, i, none⟩ v) :=
  hb.trans ⟨rfl, rfl, rfl, by simp [World.setCell], fun k hk => Below.heap_setCell w' ⟨g, i, none⟩ v k (by simp; omega)⟩

/-- what holds in reg.Clone's loop -/
structure CloI (w wr : World) (r : RegD) (va : Option Addr) (vc : Nat) (da : Option Addr) (dc : Nat) (oa : Option Addr) (oc : Nat) (ma : Option Addr) (mc : Nat) (k : Nat) : Prop where
  blk : wr.heap[w.heap.size]? = some (.cells (regCs r ⟨va, vc, da, dc, oa, oc, ma, mc⟩).toArray 28 (0, 0))
  res : wr.heap[w.heap.size + 1]? = some (.cells (regCs zeroReg zeroRegA).toArray 28 (0, 0))
  vars : OwnRows NumR 1 2 wr (w.heap.size + 2) va vc r.vars
  out : OwnRows CellR 4 68 wr (w.heap.size + 2) oa oc r.out
  marks : OwnRows MarkR 3 30 wr (w.heap.size + 2) ma mc r.marks
  tab : TabK wr (w.heap.size + 2) k da dc r.done
  below : Below w.heap.size w wr
theorem CloI.up {w wr w' : World} {r : RegD} {va : Option Addr} {vc : Nat} {da : Option Addr} {dc : Nat} {oa : Option Addr} {oc : Nat} {ma : Option Addr} {mc k : Nat} (h : CloI w wr r va vc da dc oa oc ma mc k) (hb : Below wr.heap.size wr w') : CloI w w' r va vc da dc oa oc ma mc k :=
  ⟨block_up hb h.blk, block_up hb h.res, ownNum_mono h.vars hb, OwnRows.mono (R := CellR) (w := wr) (w' := w') (fun _ _ h => h) hb h.out, OwnRows.mono (R := MarkR) (w := wr) (w' := w') (fun _ _ h => h) hb h.marks, h.tab.mono hb, bthen h.below hb⟩
theorem CloI.set {w wr : World} {r : RegD} {va : Option Addr} {vc : Nat} {da : Option Addr} {dc : Nat} {oa : Option Addr} {oc : Nat} {ma : Option Addr} {mc k k' : Nat} (h : CloI w wr r va vc da dc oa oc ma mc k) {g : Nat} {cur : Array Value} (hg : wr.heap[g]? = some (.cells cur 66 (0, 0))) (hs : w.heap.size + 2 ≤ g) (i : Nat) (v : Value)
    (ht : TabK (wr.setCell ⟨g, i, none⟩ v) (w.heap.size + 2) k' da dc r.done) : CloI w (wr.setCell ⟨g, i, none⟩ v) r va vc da dc oa oc ma mc k' :=
  ⟨by rw [heap_setCell_other _ _ _ _ (by simp only; omega)]; exact h.blk, by rw [heap_setCell_other _ _ _ _ (by simp only; omega)]; exact h.res,
   ownRows_set h.vars hg (by decide) _ _ (fun _ _ h => h), ownRows_set h.out hg (by decide) _ _ (fun _ _ h => h), ownRows_set h.marks hg (by decide) _ _ (fun _ _ h => h), ht, below_set h.below (by omega) _ _⟩

/-- what the call owns is kept where no block from its base on is written -/
theorem own_from {w w' : World} {base : Nat} {e : TypeId} {size : Nat} {v : Value} {n : Nat} {xs : List Value} (h : Own w base e size v n xs) (hk : ∀ b, base ≤ b → b < w.heap.size → w'.heap[b]? = w.heap[b]?) : Own w' base e size v n xs := by
  obtain ⟨a, cap, rfl, hl, hn, hm, h⟩ := h
  refine ⟨a, cap, rfl, hl, hn, hm, ?_⟩
  rcases h with h0 | ⟨g, cur, rfl, hb, hgg, hc, ht⟩
  · exact .inl h0
  · exact .inr ⟨g, cur, rfl, hb, by rw [hk g hb (Array.getElem?_eq_some_iff.1 hgg).1]; exact hgg, hc, ht⟩
theorem ownRows_from {α : Type} {R : World → List Value → α → Prop} {c : Nat} {e : TypeId} {w w' : World} {base : Nat} {a : Option Addr} {cap : Nat} {l : List α} (h : OwnRows R c e w base a cap l) (hR : ∀ cs x, R w cs x → R w' cs x) (hk : ∀ b, base ≤ b → b < w.heap.size → w'.heap[b]? = w.heap[b]?) : OwnRows R c e w' base a cap l := by
  obtain ⟨css, h1, h2⟩ := h
  exact ⟨css, h1.mono hR, own_from h2 hk⟩
theorem TabK.from {w w' : World} {base : Nat} {a : Option Addr} {cap : Nat} {l : List DoneD} (h : TabK w base l.length a cap l) (hk : ∀ b, base ≤ b → b < w.heap.size → w'.heap[b]? = w.heap[b]?) : TabK w' base l.length a cap l := by
  obtain ⟨css, g, cur, h1, h2, h3, h4, h5⟩ := h.it
  have h5' : ∀ i (h : i < css.length) (h' : i < l.length), i < l.length → DoneO w' base css[i] l[i] := fun i hi hi' hk' =>
    let ⟨a, c, e, q⟩ := h5 i hi hi' hk'; ⟨a, c, e, ownRows_from q (fun _ _ h => h) hk⟩
  refine ⟨css, g, cur, ⟨h1.1, fun i hi hi' => ⟨(h1.2 i hi hi').1, ?_⟩⟩, h2, h3, ?_, h5'⟩
  · obtain ⟨p, q1, q2, q3, q4, q5⟩ := (h1.2 i hi hi').2
    obtain ⟨a2, c2, e2, o2⟩ := h5' i hi hi' hi'
    rw [q1] at e2
    simp [repCs] at e2
    obtain ⟨pa, pc⟩ := p
    simp only at e2 q5
    obtain ⟨rfl, rfl⟩ := e2
    have hr := o2.rows (by omega)
    exact ⟨⟨pa, pc⟩, q1, q2, q3, ⟨q4.1, q4.2.1, q4.2.2.1, hr.1, hr.2.1, hr.2.2⟩, q5⟩
  · rcases h4 with h4 | ⟨e1, e2, e3, e4, e5⟩
    · exact .inl h4
    · exact .inr ⟨e1, e2, by rw [hk g e2 (Array.getElem?_eq_some_iff.1 e3).1]; exact e3, e4, e5⟩

theorem RegOwn.of {w : World} {base : Nat} {r : RegD} {va : Option Addr} {vc : Nat} {da : Option Addr} {dc : Nat} {oa : Option Addr} {oc : Nat} {ma : Option Addr} {mc : Nat} (hk : U8 r.kind) (hi : U64 r.inc) (hs : I64 r.state) (hl : U64 r.last)
    (hv : OwnRows NumR 1 2 w base va vc r.vars) (ho : OwnRows CellR 4 68 w base oa oc r.out) (hm : OwnRows MarkR 3 30 w base ma mc r.marks) (ht : TabK w base r.done.length da dc r.done) : RegOwn w base r ⟨va, vc, da, dc, oa, oc, ma, mc⟩ :=
  have v := hv.rows (by omega)
  have o := ho.rows (by omega)
  have m := hm.rows (by omega)
  ⟨⟨hk, hi, hs, hl, v.1, ht.rows.1, o.1, m.1, v.2, ht.rows.2, o.2, m.2⟩, hv, ho, hm, ht⟩
theorem RegOwn.from {w w' : World} {base : Nat} {r : RegD} {q : RegA} (h : RegOwn w base r q) (hk : ∀ b, base ≤ b → b < w.heap.size → w'.heap[b]? = w.heap[b]?) : RegOwn w' base r q :=
  RegOwn.of h.reg.kind h.reg.inc h.reg.state h.reg.last (ownRows_from h.vars (fun _ _ h => h) hk) (ownRows_from h.out (fun _ _ h => h) hk) (ownRows_from h.marks (fun _ _ h => h) hk) (h.done.from hk)
theorem RegOwn.base {w : World} {base base' : Nat} {r : RegD} {q : RegA} (h : RegOwn w base r q) (hb : base' ≤ base) : RegOwn w base' r q :=
  ⟨h.reg, ownRows_base h.vars hb, ownRows_base h.out hb, ownRows_base h.marks hb, h.done.base hb⟩
theorem reg_info : (Try.prog.info? 28).map (·.size) = some 8 := by kernel_rfl
theorem reg_one (r : RegD) (q : RegA) : (regCs r q).toArray.all (·.oneCell') = true := by simp [regCs, Value.oneCell']

theorem great_lens {r : RegD} (h : greatS r = false) : r.vars.length ≤ 50 ∧ r.done.length ≤ 50 ∧ r.out.length ≤ 50 ∧ r.marks.length ≤ 50 ∧ ∀ d ∈ r.done, d.rep.vars.length ≤ 50 := by
  unfold greatS at h
  rw [Bool.or_eq_false_iff] at h
  have h1 := of_decide_eq_false h.1
  have h2 := h.2
  rw [List.any_eq_false] at h2
  refine ⟨by omega, by omega, by omega, by omega, fun d hd => ?_⟩
  have := h2 d hd
  simp at this
  exact this
end Rg
end Go.Proofs.Ytiaogfjmhpkcmaa
