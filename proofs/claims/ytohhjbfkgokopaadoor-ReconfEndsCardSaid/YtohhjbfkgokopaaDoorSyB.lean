/- The operations' laws of the walk that names what it knows: for a plain region's list and for a drawn region's order. Over any program. No condition. Printed by a program (gensyb.py). -/
import Derived.Test.YtohhjbfkgokopaaDoorSyA
import Derived.Deep.MidRow
namespace Go.Proofs.YtohhjbfkgokopaaDoor
open Go.RowKit
set_option linter.unusedVariables false
set_option linter.unusedSimpArgs false
namespace Sy

/-- what the walk must know of a type -/
structure Ty where
  agg : Bool
  size : Nat
  bytes : Nat
  zero : List Value
  offs : List Nat
  szs : List Nat
  isSt : Bool
  elem : Nat × Nat
  kind : Option IntKind
  isSl : Bool
  isStr : Bool
def tyOf (P : Program) (t : TypeId) : Option Ty :=
  match P.underlying t, P.info? t with
  | some d, some i => match i.zero with
    | some z => some
      { agg := (match d with | .struct _ | .array _ _ => true | _ => false)
        size := i.size, bytes := i.bytes, zero := z.cells.toList
        offs := (match d with
          | .struct fs => if fs.all (fun f => match P.info? f.type with | some j => j.size != 0 | none => false) then (fs.map (·.offset)).toList else []
          | _ => [])
        szs := (match d with
          | .struct fs => (fs.map (fun f => match P.info? f.type with | some j => j.size | none => 0)).toList
          | _ => [])
        isSt := (match d with | .struct fs => fs.all (fun f => (P.info? f.type).isSome) | _ => false)
        elem := (match d with
          | .slice e => (match P.info? e with | some j => (e, j.size) | none => (0, 0))
          | _ => (0, 0))
        kind := (match d with | .int k => some k | _ => none)
        isSl := (match d with | .slice _ => true | _ => false)
        isStr := (match d with | .string => true | _ => false) }
    | none => none
  | _, _ => none
def getY : List (Nat × Ty) → Nat → Option Ty
  | [], _ => none
  | (k, y) :: r, i => bif Nat.beq k i then some y else getY r i
def entersB (P : Program) (f : FuncId) : Bool :=
  match P.funcs[f]? with
  | some fn => fn.body.isSome && !(fn.name == "runtime.NumGoroutine")
  | none => false
/-- what the walk must know of a program -/
class Seat (P : Program) (tab : outParam (List (Nat × Ty))) (fl : outParam (List Nat)) : Prop where
  ty : ∀ t y, getY tab t = some y → tyOf P t = some y
  fn : ∀ f, fl.contains f = true → entersB P f = true
  mixed : P.follows .mixedOrders = true
theorem tab_of {P : Program} : ∀ {tab : List (Nat × Ty)}, tab.map (fun p => tyOf P p.1) = tab.map (fun p => some p.2) → ∀ t y, getY tab t = some y → tyOf P t = some y
  | [], _, t, y, h => by cases h
  | (k, q) :: r, he, t, y, h => by
    simp only [List.map_cons, List.cons.injEq] at he
    unfold getY at h
    cases hb : Nat.beq k t
    · rw [hb] at h; exact tab_of he.2 t y h
    · rw [hb] at h
      obtain rfl := Nat.eq_of_beq_eq_true hb
      simp at h; subst h; exact he.1
theorem fns_of {P : Program} {fl : List Nat} (h : fl.all (entersB P) = true) : ∀ f, fl.contains f = true → entersB P f = true := fun f hf => by
  rw [List.all_eq_true] at h
  exact h f (by simpa using hf)

theorem tyOf_spec {P : Program} {t : TypeId} {y : Ty} (h : tyOf P t = some y) : ∃ d i z, P.underlying t = some d ∧ P.info? t = some i ∧ i.zero = some z ∧ y.agg = (match d with | .struct _ | .array _ _ => true | _ => false) ∧
    y.size = i.size ∧ y.bytes = i.bytes ∧ y.zero = z.cells.toList ∧ y.offs = (match d with
          | .struct fs => if fs.all (fun f => match P.info? f.type with | some j => j.size != 0 | none => false) then (fs.map (·.offset)).toList else []
          | _ => []) ∧ y.elem = (match d with
          | .slice e => (match P.info? e with | some j => (e, j.size) | none => (0, 0))
          | _ => (0, 0)) ∧ y.kind = (match d with | .int k => some k | _ => none) ∧ y.isSl = (match d with | .slice _ => true | _ => false) ∧ y.isStr = (match d with | .string => true | _ => false) ∧
    y.szs = (match d with
          | .struct fs => (fs.map (fun f => match P.info? f.type with | some j => j.size | none => 0)).toList
          | _ => []) ∧ y.isSt = (match d with | .struct fs => fs.all (fun f => (P.info? f.type).isSome) | _ => false) := by
  unfold tyOf at h
  split at h
  · rename_i d i hd hi
    split at h
    · rename_i z hz
      have h := Option.some.inj h
      subst h
      exact ⟨d, i, z, hd, hi, hz, rfl, rfl, rfl, rfl, rfl, rfl, rfl, rfl, rfl, rfl, rfl⟩
    · cases h
  · cases h

/-! ### cells -/
def cutK : List Value → Nat → Nat → (List Value → Prop) → Prop
  | _, 0, 0, K => K []
  | c :: r, 0, n + 1, K => cutK r 0 n fun vs => K (c :: vs)
  | _ :: r, o + 1, n, K => cutK r o n K
  | [], _, _, _ => False
theorem cutK_spec : ∀ {cs : List Value} {o n : Nat} {K : List Value → Prop}, cutK cs o n K → ∃ vs, vs.length = n ∧ (∀ j v, vs[j]? = some v → cs[o + j]? = some v) ∧ K vs
  | cs, 0, 0, K, h => ⟨[], rfl, by simp, by cases cs <;> exact h⟩
  | c :: r, 0, n + 1, K, h => by
    obtain ⟨vs, h1, h2, h3⟩ := cutK_spec (cs := r) (o := 0) (n := n) h
    refine ⟨c :: vs, by simp [h1], fun j v hj => ?_, h3⟩
    cases j with
    | zero => simpa using hj
    | succ j => simpa using h2 j v (by simpa using hj)
  | c :: r, o + 1, n, K, h => by
    have h' : cutK r o n K := by cases n <;> exact h
    obtain ⟨vs, h1, h2, h3⟩ := cutK_spec h'
    exact ⟨vs, h1, fun j v hj => by rw [show o + 1 + j = (o + j) + 1 from by omega]; simpa using h2 j v hj, h3⟩
  | [], o + 1, n, K, h => by cases n <;> exact h.elim
  | [], 0, n + 1, K, h => h.elim

def setK : List Value → Nat → List Value → (List Value → Prop) → Prop
  | cs, 0, [], K => K cs
  | _ :: r, 0, v :: vs, K => setK r 0 vs fun r' => K (v :: r')
  | c :: r, o + 1, vs, K => setK r o vs fun r' => K (c :: r')
  | [], _, _, _ => False
/-- a row with cells written over -/
def overL : List Value → Nat → List Value → List Value
  | cs, 0, [] => cs
  | _ :: r, 0, v :: vs => v :: overL r 0 vs
  | c :: r, o + 1, vs => c :: overL r o vs
  | [], _, _ => []
theorem setK_spec : ∀ {cs : List Value} {o : Nat} {vs : List Value} {K : List Value → Prop}, setK cs o vs K → K (overL cs o vs) ∧ o + vs.length ≤ cs.length
  | cs, 0, [], K, h => by cases cs <;> exact ⟨h, by simp⟩
  | c :: r, 0, v :: vs, K, h => by
    obtain ⟨h1, h2⟩ := setK_spec (cs := r) (o := 0) (vs := vs) h
    exact ⟨h1, by simp at h2 ⊢; omega⟩
  | c :: r, o + 1, vs, K, h => by
    have h' : setK r o vs fun r' => K (c :: r') := by cases vs <;> exact h
    obtain ⟨h1, h2⟩ := setK_spec h'
    refine ⟨?_, by simp; omega⟩
    cases vs <;> exact h1
  | [], o + 1, vs, K, h => by cases vs <;> exact h.elim
  | [], 0, v :: vs, K, h => h.elim
theorem overL_len : ∀ (cs : List Value) (o : Nat) (vs : List Value), o + vs.length ≤ cs.length → (overL cs o vs).length = cs.length
  | cs, 0, [], _ => by cases cs <;> rfl
  | c :: r, 0, v :: vs, h => by simp [overL, overL_len r 0 vs (by simp at h ⊢; omega)]
  | c :: r, o + 1, vs, h => by
    have : overL (c :: r) (o + 1) vs = c :: overL r o vs := by cases vs <;> rfl
    simp [this, overL_len r o vs (by simp at h; omega)]
  | [], o + 1, vs, h => by simp at h
  | [], 0, v :: vs, h => by simp at h
/-- the same by single cells -/
theorem setCells_over {b : Nat} {t : TypeId} : ∀ (vs : List Value) (o : Nat) (cs : List Value) (w : World), o + vs.length ≤ cs.length → w.heap[b]? = some (.cells cs.toArray t (0, 0)) →
    (w.setCells b o vs).heap[b]? = some (.cells (overL cs o vs).toArray t (0, 0))
  | [], o, cs, w, h, hg => by
    rw [World.setCells, hg]
    congr 3
    clear hg h
    induction o generalizing cs with
    | zero => cases cs <;> rfl
    | succ o ih =>
      cases cs with
      | nil => rfl
      | cons c r =>
        have := ih r
        simp only [overL, List.cons.injEq, true_and, List.toArray_inj, Array.mk.injEq] at this ⊢
        exact this
  | v :: r, o, cs, w, h, hg => by
    have hs := heap_setCell_same w b o cs.toArray t v hg
    have he : (cs.toArray.setIfInBounds o v) = (cs.set o v).toArray := by simp
    rw [he] at hs
    rw [World.setCells, setCells_over r (o + 1) (cs.set o v) _ (by simp at h ⊢; omega) hs]
    congr 3
    clear hs he hg
    induction o generalizing cs with
    | zero =>
      cases cs with
      | nil => simp at h
      | cons c k => cases r <;> rfl
    | succ o ih =>
      cases cs with
      | nil => simp at h
      | cons c k =>
        have := ih k (by simp at h ⊢; omega)
        cases r <;> simp only [overL, List.set_cons_succ, List.cons.injEq, true_and, List.toArray_inj, Array.mk.injEq] at this ⊢ <;> exact this
theorem setCells_heap_other {b : Nat} : ∀ (vs : List Value) (o : Nat) (w : World) (k : Nat), k ≠ b → (w.setCells b o vs).heap[k]? = w.heap[k]?
  | [], _, _, _, _ => rfl
  | v :: r, o, w, k, h => by
    rw [World.setCells, setCells_heap_other r (o + 1) _ k h, heap_setCell_other _ _ _ _ h]
theorem setCells_rest {b : Nat} : ∀ (vs : List Value) (o : Nat) (w : World), (w.setCells b o vs).os = w.os ∧ (w.setCells b o vs).tape = w.tape ∧ (w.setCells b o vs).output = w.output ∧ (w.setCells b o vs).heap.size = w.heap.size
  | [], _, _ => ⟨rfl, rfl, rfl, rfl⟩
  | v :: r, o, w => by
    obtain ⟨h1, h2, h3, h4⟩ := setCells_rest (b := b) r (o + 1) (w.setCell ⟨b, o, none⟩ v)
    exact ⟨h1, h2, h3, by rw [World.setCells, h4, World.size_setCell]⟩

theorem range_of {w : World} {g : Nat} {cs : List Value} {t : TypeId} (h : w.heap[g]? = some (.cells cs.toArray t (0, 0))) {o : Nat} {vs : List Value} (hv : ∀ j v, vs[j]? = some v → cs[o + j]? = some v) : w.rangeAt g o vs := fun j v hj => by
  simp [World.cell?, h, hv j v hj]
theorem there_of {w : World} {g : Nat} {cs : List Value} {t : TypeId} (h : w.heap[g]? = some (.cells cs.toArray t (0, 0))) {o n : Nat} (hn : o + n ≤ cs.length) : w.there g o n := fun j hj => by
  refine ⟨?_, ?_⟩
  · have : o + j < cs.length := by omega
    simp [World.cell?, h, this]
  · simp only [World.frozen?, h]
    simp

/-! ### what an operation yields -/
structure Runs (P : Program) (a : Act) (op : Op) (ty : TypeId) (w : World) (v : Value) : Prop where
  of ::
  out : ∀ d pos af gd, (execOp a.eval ⟨d, op, ty, pos, af, gd⟩).run P w = .ok (.value v) w

section
variable {P : Program} {tab : List (Nat × Ty)} {fl : List Nat} {a : Act} {n : Nat} {ts : List (Nat × Value)} {w : World} {ty : TypeId}

theorem run_isAgg_y {t : TypeId} {y : Ty} (h : tyOf P t = some y) (w : World) : (isAgg t).run P w = .ok y.agg w := by
  obtain ⟨d, i, z, hd, _, _, ha, _⟩ := tyOf_spec h
  unfold isAgg
  rw [Sem.run_bind, run_underlying hd w]
  rw [ha]
  cases d <;> simp
theorem run_sizeOf_y {t : TypeId} {y : Ty} (h : tyOf P t = some y) (w : World) : (sizeOf t).run P w = .ok y.size w := by
  obtain ⟨d, i, z, _, hi, _, _, hs, _⟩ := tyOf_spec h
  simp [sizeOf, typeInfo, hi, hs]
theorem info_y {t : TypeId} {y : Ty} (h : tyOf P t = some y) : (P.info? t).map (·.size) = some y.size := by
  obtain ⟨d, i, z, _, hi, _, _, hs, _⟩ := tyOf_spec h
  rw [hi, hs]; rfl
theorem run_zero_y {t : TypeId} {y : Ty} (h : tyOf P t = some y) (w : World) : ∃ z, (zeroValue t).run P w = .ok z w ∧ z.cells.toList = y.zero := by
  obtain ⟨d, i, z, _, hi, hz, _, _, _, he, _⟩ := tyOf_spec h
  exact ⟨z, by simp [zeroValue, typeInfo, hi, hz], he.symm⟩

theorem runs_move (T : Tm a n ts) {x : Operand} {v : Value} (hx : ev ts x = some v := by exact rfl) : Runs P a (.move x) ty w v := .of fun _ _ _ _ => by
  simp [execOp, T.eval hx]
theorem runs_assign (T : Tm a n ts) {x : Operand} {v : Value} (hx : ev ts x = some v := by exact rfl) : Runs P a (.assign x) ty w v := .of fun _ _ _ _ => by
  simp [execOp, T.eval hx]
theorem runs_pick_t (T : Tm a n ts) {c x y : Operand} {v : Value} (hc : ev ts c = some (.bool true) := by exact rfl) (hx : ev ts x = some v := by exact rfl) : Runs P a (.pick c x y) ty w v := .of fun _ _ _ _ => by
  simp [execOp, T.eval hx, T.eval hc, asBool]
theorem runs_pick_f (T : Tm a n ts) {c x y : Operand} {v : Value} (hc : ev ts c = some (.bool false) := by exact rfl) (hx : ev ts y = some v := by exact rfl) : Runs P a (.pick c x y) ty w v := .of fun _ _ _ _ => by
  simp [execOp, T.eval hx, T.eval hc, asBool]
theorem runs_pick (T : Tm a n ts) {c x y : Operand} {v : Value} {b b1 b2 : Bool} (hc : ev ts c = some (.bool b) := by exact rfl) (hx : ev ts x = some (.bool b1) := by exact rfl) (hy : ev ts y = some (.bool b2) := by exact rfl) : Runs P a (.pick c x y) ty w (.bool (bif b then b1 else b2)) := .of fun _ _ _ _ => by
  cases b <;> simp [execOp, T.eval hx, T.eval hy, T.eval hc, asBool]
theorem runs_extract (T : Tm a n ts) {x : Operand} {i : Nat} {vs : List Value} {v : Value} (hx : ev ts x = some (.tuple vs.toArray) := by exact rfl) (hi : vs[i]? = some v := by exact rfl) : Runs P a (.extract x i) ty w v := .of fun _ _ _ _ => by
  simp [execOp, T.eval hx, Instr.extract, hi]
theorem runs_nilCheck (T : Tm a n ts) {x : Operand} {g : Addr} (hx : ev ts x = some (.pointer (some g)) := by exact rfl) : Runs P a (.nilCheck x) ty w (.pointer (some g)) := .of fun _ _ _ _ => by
  simp [execOp, T.eval hx]
theorem runs_makeFunc (T : Tm a n ts) {f : Fn} {fs cs : List Operand} {us vs : List Value} (h1 : evs ts fs = some us := by exact rfl) (h2 : evs ts cs = some vs := by exact rfl) : Runs P a (.makeFunc f fs.toArray cs.toArray) ty w (.func f us.toArray vs.toArray) := .of fun _ _ _ _ => by
  simp [execOp, Instr.makeFunc, T.evals h1, T.evals h2]
theorem runs_fieldAddr [S : Seat P tab fl] (T : Tm a n ts) {s : TypeId} {x : Operand} {f g o d : Nat} {y : Ty} (hx : ev ts x = some (.pointer (some ⟨g, o, none⟩)) := by exact rfl) (hy : getY tab s = some y := by exact rfl) (hd : y.offs[f]? = some d := by exact rfl) :
    Runs P a (.fieldAddr s x f) ty w (.pointer (some ⟨g, o + d, none⟩)) := .of fun _ _ _ _ => by
  obtain ⟨de, i, z, hde, hi, hz, _, _, _, _, ho, _⟩ := tyOf_spec (S.ty _ _ hy)
  rw [ho] at hd
  cases de with
  | struct fs =>
    simp only at hd
    split at hd
    · rename_i hall
      rw [Array.getElem?_toList, Array.getElem?_map] at hd
      cases hf : fs[f]? with
      | none => rw [hf] at hd; simp at hd
      | some fd =>
        rw [hf] at hd
        simp at hd
        subst hd
        have h1 := (Array.all_eq_true_iff_forall_mem.1 hall) fd (Array.mem_of_getElem? hf)
        cases hj : P.info? fd.type with
        | none => rw [hj] at h1; simp at h1
        | some j =>
          rw [hj] at h1
          simp at h1
          have hadd : (⟨g, o, none⟩ : Addr).add fd.offset = ⟨g, o + fd.offset, none⟩ := addr_add _ _ _
          simp [execOp, Instr.fieldAt, run_underlying hde, hf, T.eval hx, Instr.sureAddr, fieldPlace, sizeOf, typeInfo, hj, h1, hadd]
    · simp at hd
  | _ => simp at hd
theorem runs_indexAddr [S : Seat P tab fl] (T : Tm a n ts) {s : TypeId} {x ix : Operand} {b o l c j : Nat} {k : IntKind} {i : Int} {y : Ty} (hx : ev ts x = some (.slice (some ⟨b, o, none⟩) l c) := by exact rfl) (hi : ev ts ix = some (.int k i) := by exact rfl) (hij : i = (j : Nat) := by first | exact rfl | assumption) (hj : j < l := by first | assumption | decide)
    (hy : getY tab s = some y := by exact rfl) {e1 e2 : Nat} (he : y.elem = (e1, e2) := by exact rfl) (he0 : Nat.blt 0 e2 = true := by exact rfl) : Runs P a (.indexAddr s x ix) ty w (.pointer (some ⟨b, o + j * e2, none⟩)) := .of fun _ _ _ _ => by
  subst hij
  obtain ⟨de, ii, z, hde, hinfo, hz, _, _, _, _, _, hel, _, _⟩ := tyOf_spec (S.ty _ _ hy)
  rw [he] at hel
  cases de with
  | slice el =>
    simp only at hel
    cases hq : P.info? el with
    | none => rw [hq] at hel; simp at hel; rw [hel.2] at he0; simp at he0
    | some q =>
      rw [hq] at hel
      simp only [Prod.mk.injEq] at hel
      obtain ⟨_, hel⟩ := hel
      have hadd : (⟨b, o, none⟩ : Addr).add (j * q.size) = ⟨b, o + j * q.size, none⟩ := addr_add _ _ _
      rw [hel]
      have h0 : (0 : Int) ≤ (j : Int) ∧ (j : Int) < (l : Int) := by omega
      simp [execOp, Instr.indexAt, asIntOf, T.eval hx, T.eval hi, run_underlying hde, h0, hj, sizeOf, typeInfo, hq, hadd]
  | _ => simp at hel; rw [hel.2] at he0; simp at he0
theorem runs_not (T : Tm a n ts) {x : Operand} {t : TypeId} {b : Bool} (hx : ev ts x = some (.bool b) := by exact rfl) : Runs P a (.unOp .not t x) ty w (.bool (!b)) := .of fun _ _ _ _ => by
  simp [execOp, T.eval hx, Op.unary]
theorem runs_eql (T : Tm a n ts) {x y : Operand} {t t2 : TypeId} {k : IntKind} {p q : Int} {b : Bool} (hx : ev ts x = some (.int k p) := by exact rfl) (hy : ev ts y = some (.int k q) := by exact rfl) (hb : (p == q) = b := by first | assumption | exact (rfl : _ = true) | exact (rfl : _ = false) | exact rfl) : Runs P a (.binOp .eql t x y t2) ty w (.bool b) := .of fun _ _ _ _ => by
  subst hb
  have hg : (eqGuard .eql t x y (.int k p) (.int k q)).run P w = .ok () w := rfl
  simp [execOp, T.eval hx, T.eval hy, hg, binOp, Op.intCmp]
theorem runs_neq (T : Tm a n ts) {x y : Operand} {t t2 : TypeId} {k : IntKind} {p q : Int} {b : Bool} (hx : ev ts x = some (.int k p) := by exact rfl) (hy : ev ts y = some (.int k q) := by exact rfl) (hb : (p == q) = b := by first | assumption | exact (rfl : _ = true) | exact (rfl : _ = false) | exact rfl) : Runs P a (.binOp .neq t x y t2) ty w (.bool (!b)) := .of fun _ _ _ _ => by
  subst hb
  have hg : (eqGuard .neq t x y (.int k p) (.int k q)).run P w = .ok () w := rfl
  simp [execOp, T.eval hx, T.eval hy, hg, binOp, Op.intCmp, bne]
theorem runs_lss (T : Tm a n ts) {x y : Operand} {t t2 : TypeId} {k : IntKind} {p q : Int} {b : Bool} (hx : ev ts x = some (.int k p) := by exact rfl) (hy : ev ts y = some (.int k q) := by exact rfl) (hb : (decide (p < q)) = b := by first | assumption | exact (rfl : _ = true) | exact (rfl : _ = false) | exact rfl) : Runs P a (.binOp .lss t x y t2) ty w (.bool b) := .of fun _ _ _ _ => by
  subst hb
  have hg : (eqGuard .lss t x y (.int k p) (.int k q)).run P w = .ok () w := rfl
  simp [execOp, T.eval hx, T.eval hy, hg, binOp, Op.intCmp]
theorem runs_leq (T : Tm a n ts) {x y : Operand} {t t2 : TypeId} {k : IntKind} {p q : Int} {b : Bool} (hx : ev ts x = some (.int k p) := by exact rfl) (hy : ev ts y = some (.int k q) := by exact rfl) (hb : (decide (p ≤ q)) = b := by first | assumption | exact (rfl : _ = true) | exact (rfl : _ = false) | exact rfl) : Runs P a (.binOp .leq t x y t2) ty w (.bool b) := .of fun _ _ _ _ => by
  subst hb
  have hg : (eqGuard .leq t x y (.int k p) (.int k q)).run P w = .ok () w := rfl
  simp [execOp, T.eval hx, T.eval hy, hg, binOp, Op.intCmp]
theorem runs_gtr (T : Tm a n ts) {x y : Operand} {t t2 : TypeId} {k : IntKind} {p q : Int} {b : Bool} (hx : ev ts x = some (.int k p) := by exact rfl) (hy : ev ts y = some (.int k q) := by exact rfl) (hb : (decide (p > q)) = b := by first | assumption | exact (rfl : _ = true) | exact (rfl : _ = false) | exact rfl) : Runs P a (.binOp .gtr t x y t2) ty w (.bool b) := .of fun _ _ _ _ => by
  subst hb
  have hg : (eqGuard .gtr t x y (.int k p) (.int k q)).run P w = .ok () w := rfl
  simp [execOp, T.eval hx, T.eval hy, hg, binOp, Op.intCmp]
theorem runs_geq (T : Tm a n ts) {x y : Operand} {t t2 : TypeId} {k : IntKind} {p q : Int} {b : Bool} (hx : ev ts x = some (.int k p) := by exact rfl) (hy : ev ts y = some (.int k q) := by exact rfl) (hb : (decide (p ≥ q)) = b := by first | assumption | exact (rfl : _ = true) | exact (rfl : _ = false) | exact rfl) : Runs P a (.binOp .geq t x y t2) ty w (.bool b) := .of fun _ _ _ _ => by
  subst hb
  have hg : (eqGuard .geq t x y (.int k p) (.int k q)).run P w = .ok () w := rfl
  simp [execOp, T.eval hx, T.eval hy, hg, binOp, Op.intCmp]
theorem runs_add (T : Tm a n ts) {x y : Operand} {t t2 : TypeId} {k : IntKind} {p q r : Int} (hx : ev ts x = some (.int k p) := by exact rfl) (hy : ev ts y = some (.int k q) := by exact rfl) (hr : k.wrap (p + q) = r := by first | assumption | exact rfl) : Runs P a (.binOp .add t x y t2) ty w (.int k r) := .of fun _ _ _ _ => by
  subst hr
  have hg : (eqGuard .add t x y (.int k p) (.int k q)).run P w = .ok () w := rfl
  simp [execOp, T.eval hx, T.eval hy, hg, binOp, Op.intArith]
theorem runs_sub (T : Tm a n ts) {x y : Operand} {t t2 : TypeId} {k : IntKind} {p q r : Int} (hx : ev ts x = some (.int k p) := by exact rfl) (hy : ev ts y = some (.int k q) := by exact rfl) (hr : k.wrap (p - q) = r := by first | assumption | exact rfl) : Runs P a (.binOp .sub t x y t2) ty w (.int k r) := .of fun _ _ _ _ => by
  subst hr
  have hg : (eqGuard .sub t x y (.int k p) (.int k q)).run P w = .ok () w := rfl
  simp [execOp, T.eval hx, T.eval hy, hg, binOp, Op.intArith]
theorem runs_mul (T : Tm a n ts) {x y : Operand} {t t2 : TypeId} {k : IntKind} {p q r : Int} (hx : ev ts x = some (.int k p) := by exact rfl) (hy : ev ts y = some (.int k q) := by exact rfl) (hr : k.wrap (p * q) = r := by first | assumption | exact rfl) : Runs P a (.binOp .mul t x y t2) ty w (.int k r) := .of fun _ _ _ _ => by
  subst hr
  have hg : (eqGuard .mul t x y (.int k p) (.int k q)).run P w = .ok () w := rfl
  simp [execOp, T.eval hx, T.eval hy, hg, binOp, Op.intArith]
theorem runs_and (T : Tm a n ts) {x y : Operand} {t t2 : TypeId} {k : IntKind} {p q r : Int} (hx : ev ts x = some (.int k p) := by exact rfl) (hy : ev ts y = some (.int k q) := by exact rfl) (hr : k.wrap (BitVec.ofInt k.bits p &&& BitVec.ofInt k.bits q).toNat = r := by first | assumption | exact rfl) : Runs P a (.binOp .and t x y t2) ty w (.int k r) := .of fun _ _ _ _ => by
  subst hr
  have hg : (eqGuard .and t x y (.int k p) (.int k q)).run P w = .ok () w := rfl
  simp [execOp, T.eval hx, T.eval hy, hg, binOp, Op.intBits]
theorem runs_or (T : Tm a n ts) {x y : Operand} {t t2 : TypeId} {k : IntKind} {p q r : Int} (hx : ev ts x = some (.int k p) := by exact rfl) (hy : ev ts y = some (.int k q) := by exact rfl) (hr : k.wrap (BitVec.ofInt k.bits p ||| BitVec.ofInt k.bits q).toNat = r := by first | assumption | exact rfl) : Runs P a (.binOp .or t x y t2) ty w (.int k r) := .of fun _ _ _ _ => by
  subst hr
  have hg : (eqGuard .or t x y (.int k p) (.int k q)).run P w = .ok () w := rfl
  simp [execOp, T.eval hx, T.eval hy, hg, binOp, Op.intBits]
theorem runs_xor (T : Tm a n ts) {x y : Operand} {t t2 : TypeId} {k : IntKind} {p q r : Int} (hx : ev ts x = some (.int k p) := by exact rfl) (hy : ev ts y = some (.int k q) := by exact rfl) (hr : k.wrap (BitVec.ofInt k.bits p ^^^ BitVec.ofInt k.bits q).toNat = r := by first | assumption | exact rfl) : Runs P a (.binOp .xor t x y t2) ty w (.int k r) := .of fun _ _ _ _ => by
  subst hr
  have hg : (eqGuard .xor t x y (.int k p) (.int k q)).run P w = .ok () w := rfl
  simp [execOp, T.eval hx, T.eval hy, hg, binOp, Op.intBits]
theorem runs_andNot (T : Tm a n ts) {x y : Operand} {t t2 : TypeId} {k : IntKind} {p q r : Int} (hx : ev ts x = some (.int k p) := by exact rfl) (hy : ev ts y = some (.int k q) := by exact rfl) (hr : k.wrap (BitVec.ofInt k.bits p &&& ~~~BitVec.ofInt k.bits q).toNat = r := by first | assumption | exact rfl) : Runs P a (.binOp .andNot t x y t2) ty w (.int k r) := .of fun _ _ _ _ => by
  subst hr
  have hg : (eqGuard .andNot t x y (.int k p) (.int k q)).run P w = .ok () w := rfl
  simp [execOp, T.eval hx, T.eval hy, hg, binOp, Op.intBits]
theorem runs_quo (T : Tm a n ts) {x y : Operand} {t t2 : TypeId} {k : IntKind} {p q r : Int} (hx : ev ts x = some (.int k p) := by exact rfl) (hy : ev ts y = some (.int k q) := by exact rfl) (hq : q ≠ 0 := by first | assumption | decide) (hr : k.wrap (p.tdiv q) = r := by first | assumption | exact rfl) : Runs P a (.binOp .quo t x y t2) ty w (.int k r) := .of fun _ _ _ _ => by
  subst hr
  have hg : (eqGuard .quo t x y (.int k p) (.int k q)).run P w = .ok () w := rfl
  simp [execOp, T.eval hx, T.eval hy, hg, binOp, Op.intDiv, hq]
theorem runs_rem (T : Tm a n ts) {x y : Operand} {t t2 : TypeId} {k : IntKind} {p q r : Int} (hx : ev ts x = some (.int k p) := by exact rfl) (hy : ev ts y = some (.int k q) := by exact rfl) (hq : q ≠ 0 := by first | assumption | decide) (hr : p.tmod q = r := by first | assumption | exact rfl) : Runs P a (.binOp .rem t x y t2) ty w (.int k r) := .of fun _ _ _ _ => by
  subst hr
  have hg : (eqGuard .rem t x y (.int k p) (.int k q)).run P w = .ok () w := rfl
  simp [execOp, T.eval hx, T.eval hy, hg, binOp, Op.intDiv, hq]
theorem runs_shl (T : Tm a n ts) {x y : Operand} {t t2 : TypeId} {k k2 : IntKind} {p q r : Int} (hx : ev ts x = some (.int k p) := by exact rfl) (hy : ev ts y = some (.int k2 q) := by exact rfl) (hq : decide (q < 0) = false := by first | assumption | exact rfl) (hr : k.wrap (p * 2 ^ (min q.toNat k.bits)) = r := by first | assumption | exact rfl) : Runs P a (.binOp .shl t x y t2) ty w (.int k r) := .of fun _ _ _ _ => by
  subst hr
  have hq' : ¬ q < 0 := by simpa using hq
  have hg : (eqGuard .shl t x y (.int k p) (.int k2 q)).run P w = .ok () w := rfl
  simp [execOp, T.eval hx, T.eval hy, hg, binOp, Op.shift, hq']
theorem runs_shr (T : Tm a n ts) {x y : Operand} {t t2 : TypeId} {k k2 : IntKind} {p q r : Int} (hx : ev ts x = some (.int k p) := by exact rfl) (hy : ev ts y = some (.int k2 q) := by exact rfl) (hq : decide (q < 0) = false := by first | assumption | exact rfl) (hr : p.fdiv (2 ^ (min q.toNat k.bits)) = r := by first | assumption | exact rfl) : Runs P a (.binOp .shr t x y t2) ty w (.int k r) := .of fun _ _ _ _ => by
  subst hr
  have hq' : ¬ q < 0 := by simpa using hq
  have hg : (eqGuard .shr t x y (.int k p) (.int k2 q)).run P w = .ok () w := rfl
  simp [execOp, T.eval hx, T.eval hy, hg, binOp, Op.shift, hq']
theorem runs_conv [S : Seat P tab fl] (T : Tm a n ts) {x : Operand} {s t : TypeId} {k k2 : IntKind} {p r : Int} {y ys : Ty} (hx : ev ts x = some (.int k p) := by exact rfl) (hy : getY tab t = some y := by exact rfl) (hys : getY tab s = some ys := by exact rfl) (hk : y.kind = some k2 := by exact rfl) (hr : k2.wrap p = r := by first | assumption | exact rfl) : Runs P a (.convert s t x) ty w (.int k2 r) := .of fun _ _ _ _ => by
  subst hr
  obtain ⟨de, ii, z, hde, hinfo, hz, _, _, _, _, _, _, hkk, _⟩ := tyOf_spec (S.ty _ _ hy)
  rw [hk] at hkk
  cases de with
  | int k3 =>
    simp only [Option.some.injEq] at hkk
    subst hkk
    obtain ⟨ds, _, _, hs, _⟩ := tyOf_spec (S.ty _ _ hys)
    simp [execOp, T.eval hx, convert, run_underlying hde, run_underlying hs, Conv.intToInt]
  | _ => simp at hkk
theorem runs_len (T : Tm a n ts) {x : Operand} {t : TypeId} {ad : Option Addr} {l c : Nat} (hx : ev ts x = some (.slice ad l c) := by exact rfl) [S : Seat P tab fl] {y : Ty} (hy : getY tab t = some y := by exact rfl) (hz : y.isSl = true := by exact rfl) : Runs P a (.call { callee := .builtin .len, args := #[x], argTypes := #[t] }) ty w (.int .i64 l) := .of fun _ _ _ _ => by
  obtain ⟨de, ii, z, hde, hinfo, _, _, _, _, _, _, _, _, hsl, _, _⟩ := tyOf_spec (S.ty _ _ hy)
  rw [hz] at hsl
  cases de with
  | slice el => simp [execOp, resolve, invoke, builtin, Builtin.len_, T.eval hx, run_underlying hde, goInt]
  | _ => simp at hsl
theorem runs_lenStr (T : Tm a n ts) {x : Operand} {t : TypeId} {b : ByteArray} (hx : ev ts x = some (.string b) := by exact rfl) [S : Seat P tab fl] {y : Ty} (hy : getY tab t = some y := by exact rfl) (hz : y.isStr = true := by exact rfl) : Runs P a (.call { callee := .builtin .len, args := #[x], argTypes := #[t] }) ty w (.int .i64 b.size) := .of fun _ _ _ _ => by
  obtain ⟨de, ii, z, hde, hinfo, _, _, _, _, _, _, _, _, _, hsl, _⟩ := tyOf_spec (S.ty _ _ hy)
  rw [hz] at hsl
  cases de with
  | string => simp [execOp, resolve, invoke, builtin, Builtin.len_, T.eval hx, run_underlying hde, goInt]
  | _ => simp at hsl
theorem runs_loadOne [S : Seat P tab fl] (T : Tm a n ts) {t : TypeId} {x : Operand} {g o : Nat} {y : Ty} {v : Value} (hx : ev ts x = some (.pointer (some ⟨g, o, none⟩))) (hy : getY tab t = some y) (ha : y.agg = false) (hc : w.cell? ⟨g, o, none⟩ = some v) : Runs P a (.load t x) ty w v := .of fun _ _ _ _ => by
  have hagg := run_isAgg_y (S.ty _ _ hy) w
  rw [ha] at hagg
  simp [execOp, T.eval hx, Instr.loadAt, Instr.sureAddr, loadVar, hagg, load, Sem.run, hc]
theorem runs_loadAgg [S : Seat P tab fl] (T : Tm a n ts) {t : TypeId} {x : Operand} {g o : Nat} {y : Ty} {vs : List Value} (hx : ev ts x = some (.pointer (some ⟨g, o, none⟩))) (hy : getY tab t = some y) (ha : y.agg = true) (hl : vs.length = y.size) (hc : w.rangeAt g o vs) : Runs P a (.load t x) ty w (.agg vs.toArray) := .of fun _ _ _ _ => by
  have hagg := run_isAgg_y (S.ty _ _ hy) w
  have hsz := run_sizeOf_y (S.ty _ _ hy) w
  rw [ha] at hagg
  rw [← hl] at hsz
  have hld : (loadCells ⟨g, o, none⟩ vs.length).run P w = .ok vs.toArray w := run_loadCells_list (P := P) w ⟨g, o, none⟩ vs (fun j v hv => by rw [addr_add]; exact hc j v hv)
  simp [execOp, T.eval hx, Instr.loadAt, Instr.sureAddr, loadVar, hagg, hsz, hld]
end
end Sy
end Go.Proofs.YtohhjbfkgokopaaDoor
