/- The steps of the walk that names what it knows: a plain region's list, calls, entering, returning. Over any program. No condition. Flat structs of numbers compared, in the walk that names what it knows. Over any program. No condition. Blocks that a call has made, of which whole numbers change and nothing else. Over any program. No condition. -/
import Derived.Test.YtniopkoaplkpkaaSyA
import Derived.Laws.StructEq
namespace Go.Proofs.Ytniopkoaplkpkaa
open Go.RowKit
set_option linter.unusedVariables false
namespace Sy

/-- a value has come back, all that was there stands -/
def RetV (w : World) (v : Value) (e : Ending) (w' : World) : Prop := e = .returned v ∧ Below w.heap.size w w'
/-- a value has come back with memory that stands still from now on -/
def RetM (m w : World) (R : World → Value → Prop) (e : Ending) (w' : World) : Prop :=
  ∃ v m', e = .returned v ∧ Below w.heap.size w w' ∧ Sub m m' ∧ Sub m' w' ∧ (∀ p u, p.block < w.heap.size → m'.cell? p = some u → m.cell? p = some u) ∧ R m' v

theorem Mem.start {m W : World} (h : Sub m W) : Mem ⟨W, [], m⟩ m [] W := ⟨Kept.refl _ _, Sub.refl _, h, fun _ _ _ e => e, fun _ h => (by cases h), List.nodup_nil, trivial, fun _ h => h.elim⟩
theorem MemE.end_ {E : Ext} {W m0 m w : World} {bs : List Blk} (F : MemE E ⟨W, [], m0⟩ m bs w) : Below W.heap.size W w := F.kept.below
theorem MemE.retV {E : Ext} {W m0 m w : World} {bs : List Blk} (F : MemE E ⟨W, [], m0⟩ m bs w) (v : Value) : RetV W v (.returned v) w := ⟨rfl, F.end_⟩
theorem MemE.retM {E : Ext} {W m0 m w : World} {bs : List Blk} {R : World → Value → Prop} {v : Value} (F : MemE E ⟨W, [], m0⟩ m bs w) (h : R m v) : RetM m0 W R (.returned v) w := ⟨v, m, rfl, F.end_, F.sub0, F.sub, F.fresh, h⟩
theorem MemE.after {E : Ext} {c : Cx} {m m' w w' : World} {bs : List Blk} (F : MemE E c m bs w) (hb : Below w.heap.size w w') (h1 : Sub m m') (h2 : Sub m' w') (h3 : ∀ p u, p.block < w.heap.size → m'.cell? p = some u → m.cell? p = some u) : MemE E c m' bs w' := by
  have F' := F.below hb
  refine ⟨F'.kept, F.sub0.trans h1, h2, fun p v hp e => F.fresh p v hp (h3 p v (Nat.lt_of_lt_of_le hp F.size) e), fun b hb => ⟨(F'.own b hb).1, (F'.own b hb).2.1, fun i s => ?_⟩, F.nodup, F'.ext, fun k hk => ⟨(F.loose k hk).1, (F.loose k hk).2.1, fun i s => ?_⟩⟩
  cases hc : m'.cell? ⟨b.adr, i, s⟩ with
  | none => rfl
  | some v => have := h3 _ _ (F.lt hb) hc; rw [(F.own b hb).2.2 i s] at this; cases this
  cases hc : m'.cell? ⟨k, i, s⟩ with
  | none => rfl
  | some v => have := h3 _ _ (E.dom w k F.ext hk) hc; rw [(F.loose k hk).2.2 i s] at this; cases this

section
variable {E : Ext} {P : Program} {tab : List (Nat × Ty)} {fl : List Nat} {a : Act} {n : Nat} {ts : List (Nat × Value)} {w : World} {ty : TypeId} {pos : String} {af : Array Edge}
  {ops : Array Oper} {Q : Exit → Act → World → Prop} {rest : List Oper} {c : Cx} {m : World} {bs bs' : List Blk}

theorem st_val {d : Nat} {op : Op} {v : Value} (hr : Runs P a op ty w v) (T : Tm a n ts) (hd : Nat.blt d n = true := by exact rfl) (h : ∀ a', Tm a' n ((d, v) :: ts) → wpList P ops Q rest a' w) :
    wpList P ops Q (⟨some d, op, ty, pos, af, none⟩ :: rest) a w := by
  refine wpList_plain rfl fun K hK => ?_
  unfold Oper.wp
  rw [hr.out]
  exact hK _ _ (h _ (T.put (by simpa [Nat.blt_eq] using hd) v))

/-! which operation -/
theorem is_op {d : Nat} {o : Op} (h : wpList P ops Q (⟨some d, o, ty, pos, af, none⟩ :: rest) a w) : wpList P ops Q (⟨some d, o, ty, pos, af, none⟩ :: rest) a w := h
theorem is_move {d : Option Tmp} {x : Operand} (h : wpList P ops Q (⟨d, .move x, ty, pos, af, none⟩ :: rest) a w) : wpList P ops Q (⟨d, .move x, ty, pos, af, none⟩ :: rest) a w := h
theorem is_assign {d : Option Tmp} {x : Operand} (h : wpList P ops Q (⟨d, .assign x, ty, pos, af, none⟩ :: rest) a w) : wpList P ops Q (⟨d, .assign x, ty, pos, af, none⟩ :: rest) a w := h
theorem is_pick {d : Option Tmp} {x y z : Operand} (h : wpList P ops Q (⟨d, .pick x y z, ty, pos, af, none⟩ :: rest) a w) : wpList P ops Q (⟨d, .pick x y z, ty, pos, af, none⟩ :: rest) a w := h
theorem is_alloc {d : Option Tmp} {t : TypeId} (h : wpList P ops Q (⟨d, .alloc t, ty, pos, af, none⟩ :: rest) a w) : wpList P ops Q (⟨d, .alloc t, ty, pos, af, none⟩ :: rest) a w := h
theorem is_box {d : Option Tmp} {t : TypeId} {x : Operand} (h : wpList P ops Q (⟨d, .box t x, ty, pos, af, none⟩ :: rest) a w) : wpList P ops Q (⟨d, .box t x, ty, pos, af, none⟩ :: rest) a w := h
theorem is_build {d : Option Tmp} {t : TypeId} {ps : Array (Nat × Operand)} (h : wpList P ops Q (⟨d, .build t ps, ty, pos, af, none⟩ :: rest) a w) : wpList P ops Q (⟨d, .build t ps, ty, pos, af, none⟩ :: rest) a w := h
theorem is_load {d : Option Tmp} {t : TypeId} {x : Operand} (h : wpList P ops Q (⟨d, .load t x, ty, pos, af, none⟩ :: rest) a w) : wpList P ops Q (⟨d, .load t x, ty, pos, af, none⟩ :: rest) a w := h
theorem is_store {d : Option Tmp} {t : TypeId} {x y : Operand} (h : wpList P ops Q (⟨d, .store t x y, ty, pos, af, none⟩ :: rest) a w) : wpList P ops Q (⟨d, .store t x y, ty, pos, af, none⟩ :: rest) a w := h
theorem is_nilCheck {d : Option Tmp} {x : Operand} (h : wpList P ops Q (⟨d, .nilCheck x, ty, pos, af, none⟩ :: rest) a w) : wpList P ops Q (⟨d, .nilCheck x, ty, pos, af, none⟩ :: rest) a w := h
theorem is_not {d : Option Tmp} {t : TypeId} {x : Operand} (h : wpList P ops Q (⟨d, .unOp .not t x, ty, pos, af, none⟩ :: rest) a w) : wpList P ops Q (⟨d, .unOp .not t x, ty, pos, af, none⟩ :: rest) a w := h
theorem is_convert {d : Option Tmp} {s t : TypeId} {x : Operand} (h : wpList P ops Q (⟨d, .convert s t x, ty, pos, af, none⟩ :: rest) a w) : wpList P ops Q (⟨d, .convert s t x, ty, pos, af, none⟩ :: rest) a w := h
theorem is_makeFunc {d : Option Tmp} {f : Fn} {us vs : Array Operand} (h : wpList P ops Q (⟨d, .makeFunc f us vs, ty, pos, af, none⟩ :: rest) a w) : wpList P ops Q (⟨d, .makeFunc f us vs, ty, pos, af, none⟩ :: rest) a w := h
theorem is_fieldAddr {d : Option Tmp} {t : TypeId} {x : Operand} {f : Nat} (h : wpList P ops Q (⟨d, .fieldAddr t x f, ty, pos, af, none⟩ :: rest) a w) : wpList P ops Q (⟨d, .fieldAddr t x f, ty, pos, af, none⟩ :: rest) a w := h
theorem is_field {d : Option Tmp} {t : TypeId} {x : Operand} {f : Nat} (h : wpList P ops Q (⟨d, .field t x f, ty, pos, af, none⟩ :: rest) a w) : wpList P ops Q (⟨d, .field t x f, ty, pos, af, none⟩ :: rest) a w := h
theorem is_indexAddr {d : Option Tmp} {t : TypeId} {x y : Operand} (h : wpList P ops Q (⟨d, .indexAddr t x y, ty, pos, af, none⟩ :: rest) a w) : wpList P ops Q (⟨d, .indexAddr t x y, ty, pos, af, none⟩ :: rest) a w := h
theorem is_extract {d : Option Tmp} {x : Operand} {k : Nat} (h : wpList P ops Q (⟨d, .extract x k, ty, pos, af, none⟩ :: rest) a w) : wpList P ops Q (⟨d, .extract x k, ty, pos, af, none⟩ :: rest) a w := h
theorem is_len {d : Option Tmp} {us : Array Operand} {tt : Array TypeId} (h : wpList P ops Q (⟨d, .call { callee := .builtin .len, args := us, argTypes := tt }, ty, pos, af, none⟩ :: rest) a w) : wpList P ops Q (⟨d, .call { callee := .builtin .len, args := us, argTypes := tt }, ty, pos, af, none⟩ :: rest) a w := h
theorem is_append {d : Option Tmp} {us : Array Operand} {tt : Array TypeId} (h : wpList P ops Q (⟨d, .call { callee := .builtin .append, args := us, argTypes := tt }, ty, pos, af, none⟩ :: rest) a w) : wpList P ops Q (⟨d, .call { callee := .builtin .append, args := us, argTypes := tt }, ty, pos, af, none⟩ :: rest) a w := h
theorem is_call {d : Option Tmp} {x : Operand} {us : Array Operand} {tt : Array TypeId} (h : wpList P ops Q (⟨d, .call { callee := .value x, args := us, argTypes := tt }, ty, pos, af, none⟩ :: rest) a w) : wpList P ops Q (⟨d, .call { callee := .value x, args := us, argTypes := tt }, ty, pos, af, none⟩ :: rest) a w := h
theorem is_slice {d : Option Tmp} {t : TypeId} {x : Operand} {lo hi mx : Option Operand} (h : wpList P ops Q (⟨d, .slice t x lo hi mx, ty, pos, af, none⟩ :: rest) a w) : wpList P ops Q (⟨d, .slice t x lo hi mx, ty, pos, af, none⟩ :: rest) a w := h
theorem is_buildSlice {d : Option Tmp} {t : TypeId} {k : Nat} {ps : Array (Nat × Operand)} (h : wpList P ops Q (⟨d, .buildSlice t k ps, ty, pos, af, none⟩ :: rest) a w) : wpList P ops Q (⟨d, .buildSlice t k ps, ty, pos, af, none⟩ :: rest) a w := h
theorem is_eql {d : Option Tmp} {t t2 : TypeId} {x y : Operand} (h : wpList P ops Q (⟨d, .binOp .eql t x y t2, ty, pos, af, none⟩ :: rest) a w) : wpList P ops Q (⟨d, .binOp .eql t x y t2, ty, pos, af, none⟩ :: rest) a w := h
theorem is_neq {d : Option Tmp} {t t2 : TypeId} {x y : Operand} (h : wpList P ops Q (⟨d, .binOp .neq t x y t2, ty, pos, af, none⟩ :: rest) a w) : wpList P ops Q (⟨d, .binOp .neq t x y t2, ty, pos, af, none⟩ :: rest) a w := h
theorem is_lss {d : Option Tmp} {t t2 : TypeId} {x y : Operand} (h : wpList P ops Q (⟨d, .binOp .lss t x y t2, ty, pos, af, none⟩ :: rest) a w) : wpList P ops Q (⟨d, .binOp .lss t x y t2, ty, pos, af, none⟩ :: rest) a w := h
theorem is_leq {d : Option Tmp} {t t2 : TypeId} {x y : Operand} (h : wpList P ops Q (⟨d, .binOp .leq t x y t2, ty, pos, af, none⟩ :: rest) a w) : wpList P ops Q (⟨d, .binOp .leq t x y t2, ty, pos, af, none⟩ :: rest) a w := h
theorem is_gtr {d : Option Tmp} {t t2 : TypeId} {x y : Operand} (h : wpList P ops Q (⟨d, .binOp .gtr t x y t2, ty, pos, af, none⟩ :: rest) a w) : wpList P ops Q (⟨d, .binOp .gtr t x y t2, ty, pos, af, none⟩ :: rest) a w := h
theorem is_geq {d : Option Tmp} {t t2 : TypeId} {x y : Operand} (h : wpList P ops Q (⟨d, .binOp .geq t x y t2, ty, pos, af, none⟩ :: rest) a w) : wpList P ops Q (⟨d, .binOp .geq t x y t2, ty, pos, af, none⟩ :: rest) a w := h
theorem is_add {d : Option Tmp} {t t2 : TypeId} {x y : Operand} (h : wpList P ops Q (⟨d, .binOp .add t x y t2, ty, pos, af, none⟩ :: rest) a w) : wpList P ops Q (⟨d, .binOp .add t x y t2, ty, pos, af, none⟩ :: rest) a w := h
theorem is_sub {d : Option Tmp} {t t2 : TypeId} {x y : Operand} (h : wpList P ops Q (⟨d, .binOp .sub t x y t2, ty, pos, af, none⟩ :: rest) a w) : wpList P ops Q (⟨d, .binOp .sub t x y t2, ty, pos, af, none⟩ :: rest) a w := h
theorem is_mul {d : Option Tmp} {t t2 : TypeId} {x y : Operand} (h : wpList P ops Q (⟨d, .binOp .mul t x y t2, ty, pos, af, none⟩ :: rest) a w) : wpList P ops Q (⟨d, .binOp .mul t x y t2, ty, pos, af, none⟩ :: rest) a w := h
theorem is_and {d : Option Tmp} {t t2 : TypeId} {x y : Operand} (h : wpList P ops Q (⟨d, .binOp .and t x y t2, ty, pos, af, none⟩ :: rest) a w) : wpList P ops Q (⟨d, .binOp .and t x y t2, ty, pos, af, none⟩ :: rest) a w := h
theorem is_or {d : Option Tmp} {t t2 : TypeId} {x y : Operand} (h : wpList P ops Q (⟨d, .binOp .or t x y t2, ty, pos, af, none⟩ :: rest) a w) : wpList P ops Q (⟨d, .binOp .or t x y t2, ty, pos, af, none⟩ :: rest) a w := h
theorem is_xor {d : Option Tmp} {t t2 : TypeId} {x y : Operand} (h : wpList P ops Q (⟨d, .binOp .xor t x y t2, ty, pos, af, none⟩ :: rest) a w) : wpList P ops Q (⟨d, .binOp .xor t x y t2, ty, pos, af, none⟩ :: rest) a w := h
theorem is_andNot {d : Option Tmp} {t t2 : TypeId} {x y : Operand} (h : wpList P ops Q (⟨d, .binOp .andNot t x y t2, ty, pos, af, none⟩ :: rest) a w) : wpList P ops Q (⟨d, .binOp .andNot t x y t2, ty, pos, af, none⟩ :: rest) a w := h
theorem is_quo {d : Option Tmp} {t t2 : TypeId} {x y : Operand} (h : wpList P ops Q (⟨d, .binOp .quo t x y t2, ty, pos, af, none⟩ :: rest) a w) : wpList P ops Q (⟨d, .binOp .quo t x y t2, ty, pos, af, none⟩ :: rest) a w := h
theorem is_rem {d : Option Tmp} {t t2 : TypeId} {x y : Operand} (h : wpList P ops Q (⟨d, .binOp .rem t x y t2, ty, pos, af, none⟩ :: rest) a w) : wpList P ops Q (⟨d, .binOp .rem t x y t2, ty, pos, af, none⟩ :: rest) a w := h
theorem is_shl {d : Option Tmp} {t t2 : TypeId} {x y : Operand} (h : wpList P ops Q (⟨d, .binOp .shl t x y t2, ty, pos, af, none⟩ :: rest) a w) : wpList P ops Q (⟨d, .binOp .shl t x y t2, ty, pos, af, none⟩ :: rest) a w := h
theorem is_shr {d : Option Tmp} {t t2 : TypeId} {x y : Operand} (h : wpList P ops Q (⟨d, .binOp .shr t x y t2, ty, pos, af, none⟩ :: rest) a w) : wpList P ops Q (⟨d, .binOp .shr t x y t2, ty, pos, af, none⟩ :: rest) a w := h
theorem is_guard {d : Option Tmp} {o : Op} {j : Nat} {b : Bool} (h : wpList P ops Q (⟨d, o, ty, pos, af, some (j, b)⟩ :: rest) a w) : wpList P ops Q (⟨d, o, ty, pos, af, some (j, b)⟩ :: rest) a w := h
/-! guards -/
def yv : Value → Option Bool
  | .bool b => some b
  | _ => none
theorem wanted_t {j e : Nat} {b : Bool} {v : Value} {o : Oper} (hg : o.guard = some (j, b)) (T : Tm a n ts) (hj : (ops[j]?).bind (·.dst) = some e) (hv : getT ts e = some v) : Region.wanted o (yielded ops a.tmps) = (yv v == some b) := by
  have h1 := T.at_ _ _ hv
  have : yielded ops a.tmps j = yv v := by
    unfold yielded
    rw [hj]
    simp only [Option.bind_some, h1]
    cases v <;> rfl
  unfold Region.wanted
  rw [hg]
  simp only [this]
theorem st_guard {d : Option Tmp} {op : Op} {j e : Nat} {b : Bool} {v : Value} (T : Tm a n ts) (hj : (ops[j]?).bind (·.dst) = some e := by exact rfl) (hv : getT ts e = some v := by exact rfl) (hy : (yv v == some b) = true := by exact rfl)
    (h : wpList P ops Q (⟨d, op, ty, pos, af, none⟩ :: rest) a w) : wpList P ops Q (⟨d, op, ty, pos, af, some (j, b)⟩ :: rest) a w := by
  have hw := wanted_t (ops := ops) (o := ⟨d, op, ty, pos, af, some (j, b)⟩) rfl T hj hv
  rw [hy] at hw
  unfold wpList at h ⊢
  rw [if_pos hw]
  rw [if_pos (by rfl)] at h
  exact h
theorem st_unguard {d : Nat} {op : Op} {j e : Nat} {b : Bool} {v : Value} (T : Tm a n ts) (hj : (ops[j]?).bind (·.dst) = some e := by exact rfl) (hv : getT ts e = some v := by exact rfl) (hy : (yv v == some b) = false := by exact rfl) (hd : Nat.blt d n = true := by exact rfl)
    (h : ∀ a', Tm a' n ((d, undef) :: ts) → wpList P ops Q rest a' w) : wpList P ops Q (⟨some d, op, ty, pos, af, some (j, b)⟩ :: rest) a w := by
  have hw := wanted_t (ops := ops) (o := ⟨some d, op, ty, pos, af, some (j, b)⟩) rfl T hj hv
  rw [hy] at hw
  unfold wpList
  rw [if_neg (by rw [hw]; simp)]
  exact h _ (T.put (by simpa [Nat.blt_eq] using hd) undef)

/-! memory of the call's own -/
theorem st_newB' {d : Nat} {op : Op} {cs : List Value} {t : TypeId} (T : Tm a n ts) (F : MemE E c m bs w) (hd : Nat.blt d n = true)
    (hr : ∀ d' pos af gd, (execOp a.eval ⟨d', op, ty, pos, af, gd⟩).run P w = .ok (.value (.pointer (some ⟨w.heap.size, 0, none⟩))) (w.alloc (.cells cs.toArray t (0, 0))))
    (h : ∀ a' w', Tm a' n ((d, .pointer (some ⟨w.heap.size, 0, none⟩)) :: ts) → MemE E c m (⟨w.heap.size, cs, t⟩ :: bs) w' → Below w.heap.size w w' → wpList P ops Q rest a' w') : wpList P ops Q (⟨some d, op, ty, pos, af, none⟩ :: rest) a w := by
  refine wpList_plain rfl fun K hK => ?_
  unfold Oper.wp
  rw [hr]
  exact hK _ _ (h _ _ (T.put (by simpa [Nat.blt_eq] using hd) _) (F.alloc cs t) (balloc _ _))
theorem st_newB {d : Nat} {op : Op} {cs : List Value} {t : TypeId} (T : Tm a n ts) (F : MemE E c m bs w) (hd : Nat.blt d n = true)
    (hr : ∀ d' pos af gd, (execOp a.eval ⟨d', op, ty, pos, af, gd⟩).run P w = .ok (.value (.pointer (some ⟨w.heap.size, 0, none⟩))) (w.alloc (.cells cs.toArray t (0, 0))))
    (h : ∀ a' g w', Tm a' n ((d, .pointer (some ⟨g, 0, none⟩)) :: ts) → MemE E c m (⟨g, cs, t⟩ :: bs) w' → Below w.heap.size w w' → wpList P ops Q rest a' w') : wpList P ops Q (⟨some d, op, ty, pos, af, none⟩ :: rest) a w := by
  refine wpList_plain rfl fun K hK => ?_
  unfold Oper.wp
  rw [hr]
  exact hK _ _ (h _ _ _ (T.put (by simpa [Nat.blt_eq] using hd) _) (F.alloc cs t) (balloc _ _))
theorem st_new {d : Nat} {op : Op} {cs : List Value} {t : TypeId} (T : Tm a n ts) (F : MemE E c m bs w) (hd : Nat.blt d n = true)
    (hr : ∀ d' pos af gd, (execOp a.eval ⟨d', op, ty, pos, af, gd⟩).run P w = .ok (.value (.pointer (some ⟨w.heap.size, 0, none⟩))) (w.alloc (.cells cs.toArray t (0, 0))))
    (h : ∀ a' g w', Tm a' n ((d, .pointer (some ⟨g, 0, none⟩)) :: ts) → MemE E c m (⟨g, cs, t⟩ :: bs) w' → wpList P ops Q rest a' w') : wpList P ops Q (⟨some d, op, ty, pos, af, none⟩ :: rest) a w :=
  st_newB T F hd hr fun a' g w' h1 h2 _ => h a' g w' h1 h2
theorem new_boxAgg {t : TypeId} {x : Operand} {cs : List Value} (T : Tm a n ts) (hx : ev ts x = some (.agg cs.toArray)) (d' : Option Tmp) (pos : String) (af : Array Edge) (gd : Option (Nat × Bool)) :
    (execOp a.eval ⟨d', .box t x, ty, pos, af, gd⟩).run P w = .ok (.value (.pointer (some ⟨w.heap.size, 0, none⟩))) (w.alloc (.cells cs.toArray t (0, 0))) := by
  simp [execOp, T.eval hx, Instr.box, newVar, newRow, newObj, Value.cells]; rfl
theorem new_boxOne {t : TypeId} {x : Operand} {v : Value} (T : Tm a n ts) (hx : ev ts x = some v) (h1 : v.oneCell' = true) (d' : Option Tmp) (pos : String) (af : Array Edge) (gd : Option (Nat × Bool)) :
    (execOp a.eval ⟨d', .box t x, ty, pos, af, gd⟩).run P w = .ok (.value (.pointer (some ⟨w.heap.size, 0, none⟩))) (w.alloc (.cells [v].toArray t (0, 0))) := by
  have hv : v.cells = #[v] := by cases v <;> simp_all [Value.cells, Value.oneCell']
  simp [execOp, T.eval hx, Instr.box, newVar, newRow, newObj, hv]; rfl
theorem new_alloc [S : Seat P tab fl] {t : TypeId} {ag st sl sr : Bool} {sz by' : Nat} {z : List Value} {offs szs : List Nat} {el : Nat × Nat} {kd : Option IntKind} (hy : getY tab t = some ⟨ag, sz, by', z, offs, szs, st, el, kd, sl, sr⟩) (d' : Option Tmp) (pos : String) (af : Array Edge) (gd : Option (Nat × Bool)) :
    (execOp a.eval ⟨d', .alloc t, ty, pos, af, gd⟩).run P w = .ok (.value (.pointer (some ⟨w.heap.size, 0, none⟩))) (w.alloc (.cells z.toArray t (0, 0))) := by
  obtain ⟨z0, h1, h2⟩ := run_zero_y (S.ty _ _ hy) w
  have h3 : z0.cells = z.toArray := by rw [← show _ = z from h2]
  simp [execOp, Instr.alloc, h1, newVar, newRow, newObj, h3]; rfl
theorem st_boxAgg {d : Nat} {t : TypeId} {x : Operand} {cs : List Value} (T : Tm a n ts) (F : MemE E c m bs w) (hd : Nat.blt d n = true := by exact rfl) (hx : ev ts x = some (.agg cs.toArray) := by exact rfl)
    (h : ∀ a' g w', Tm a' n ((d, .pointer (some ⟨g, 0, none⟩)) :: ts) → MemE E c m (⟨g, cs, t⟩ :: bs) w' → wpList P ops Q rest a' w') : wpList P ops Q (⟨some d, .box t x, ty, pos, af, none⟩ :: rest) a w :=
  st_new T F hd (new_boxAgg T hx) h
theorem st_boxOne {d : Nat} {t : TypeId} {x : Operand} {v : Value} (T : Tm a n ts) (F : MemE E c m bs w) (hd : Nat.blt d n = true := by exact rfl) (hx : ev ts x = some v := by exact rfl) (h1 : v.oneCell' = true := by exact rfl)
    (h : ∀ a' g w', Tm a' n ((d, .pointer (some ⟨g, 0, none⟩)) :: ts) → MemE E c m (⟨g, [v], t⟩ :: bs) w' → wpList P ops Q rest a' w') : wpList P ops Q (⟨some d, .box t x, ty, pos, af, none⟩ :: rest) a w :=
  st_new T F hd (new_boxOne T hx h1) h
theorem st_alloc [S : Seat P tab fl] {d : Nat} {t : TypeId} {ag st sl sr : Bool} {sz by' : Nat} {z : List Value} {offs szs : List Nat} {el : Nat × Nat} {kd : Option IntKind} (T : Tm a n ts) (F : MemE E c m bs w) (hd : Nat.blt d n = true := by exact rfl) (hy : getY tab t = some ⟨ag, sz, by', z, offs, szs, st, el, kd, sl, sr⟩ := by exact rfl)
    (h : ∀ a' g w', Tm a' n ((d, .pointer (some ⟨g, 0, none⟩)) :: ts) → MemE E c m (⟨g, z, t⟩ :: bs) w' → wpList P ops Q rest a' w') : wpList P ops Q (⟨some d, .alloc t, ty, pos, af, none⟩ :: rest) a w :=
  st_new T F hd (new_alloc hy) h
theorem st_loadAll [S : Seat P tab fl] {d : Nat} {t et : TypeId} {x : Operand} {g : Nat} {cs : List Value} {y : Ty} (T : Tm a n ts) (F : MemE E c m bs w) (hd : Nat.blt d n = true := by exact rfl) (hx : ev ts x = some (.pointer (some ⟨g, 0, none⟩)) := by exact rfl)
    (hy : getY tab t = some y := by exact rfl) (ha : y.agg = true := by exact rfl) (hk : Take bs g cs et bs' := by repeat (first | exact Go.Proofs.Ytniopkoaplkpkaa.Sy.Take.here | apply Go.Proofs.Ytniopkoaplkpkaa.Sy.Take.there)) (hl : cs.length = y.size := by first | exact rfl | assumption)
    (h : ∀ a', Tm a' n ((d, .agg cs.toArray) :: ts) → wpList P ops Q rest a' w) : wpList P ops Q (⟨some d, .load t x, ty, pos, af, none⟩ :: rest) a w :=
  st_val (runs_loadAgg T hx hy ha hl (range_of (F.get hk) (by simp))) T hd h
theorem st_loadCut [S : Seat P tab fl] {d : Nat} {t et : TypeId} {x : Operand} {g o : Nat} {cs : List Value} {y : Ty} {k : Nat} (T : Tm a n ts) (F : MemE E c m bs w) (hd : Nat.blt d n = true := by exact rfl) (hx : ev ts x = some (.pointer (some ⟨g, o, none⟩)) := by exact rfl)
    (hy : getY tab t = some y := by exact rfl) (ha : y.agg = true := by exact rfl) (hs : y.size = k := by exact rfl) (hk : Take bs g cs et bs' := by repeat (first | exact Go.Proofs.Ytniopkoaplkpkaa.Sy.Take.here | apply Go.Proofs.Ytniopkoaplkpkaa.Sy.Take.there))
    (h : cutK cs o k fun vs => ∀ a', Tm a' n ((d, .agg vs.toArray) :: ts) → wpList P ops Q rest a' w) : wpList P ops Q (⟨some d, .load t x, ty, pos, af, none⟩ :: rest) a w := by
  obtain ⟨vs, h1, h2, h3⟩ := cutK_spec h
  exact st_val (runs_loadAgg T hx hy ha (h1.trans hs.symm) (range_of (F.get hk) h2)) T hd h3
theorem st_loadOne [S : Seat P tab fl] {d : Nat} {t et : TypeId} {x : Operand} {g o : Nat} {cs : List Value} {y : Ty} {v : Value} (T : Tm a n ts) (F : MemE E c m bs w) (hd : Nat.blt d n = true := by exact rfl) (hx : ev ts x = some (.pointer (some ⟨g, o, none⟩)) := by exact rfl)
    (hy : getY tab t = some y := by exact rfl) (ha : y.agg = false := by exact rfl) (hk : Take bs g cs et bs' := by repeat (first | exact Go.Proofs.Ytniopkoaplkpkaa.Sy.Take.here | apply Go.Proofs.Ytniopkoaplkpkaa.Sy.Take.there)) (hc : cs[o]? = some v := by exact rfl)
    (h : ∀ a', Tm a' n ((d, v) :: ts) → wpList P ops Q rest a' w) : wpList P ops Q (⟨some d, .load t x, ty, pos, af, none⟩ :: rest) a w :=
  st_val (runs_loadOne T hx hy ha (by simp [World.cell?, F.get hk, hc])) T hd h
theorem st_oldOne [S : Seat P tab fl] {d : Nat} {t : TypeId} {x : Operand} {g o : Nat} {y : Ty} {v : Value} (T : Tm a n ts) (F : MemE E c m bs w) (hd : Nat.blt d n = true := by exact rfl) (hx : ev ts x = some (.pointer (some ⟨g, o, none⟩)) := by exact rfl)
    (hy : getY tab t = some y := by exact rfl) (ha : y.agg = false := by exact rfl) (hc : m.cell? ⟨g, o, none⟩ = some v := by first | assumption | exact Go.Proofs.Ytniopkoaplkpkaa.Sy.At.get0 (by repeat (first | assumption | apply Go.Proofs.Ytniopkoaplkpkaa.Sy.At.shift)) (by exact rfl))
    (h : ∀ a', Tm a' n ((d, v) :: ts) → wpList P ops Q rest a' w) : wpList P ops Q (⟨some d, .load t x, ty, pos, af, none⟩ :: rest) a w :=
  st_val (runs_loadOne T hx hy ha (F.sub _ _ hc)) T hd h
/-- the cells of a row of the memory that stands still -/
def At (m : World) (g o : Nat) (vs : List Value) : Prop := ∀ j v, vs[j]? = some v → m.cell? ⟨g, o + j, none⟩ = some v
theorem At.sub {m m' : World} {g o : Nat} {vs : List Value} (h : At m g o vs) (hs : Sub m m') : At m' g o vs := fun j v hj => hs _ _ (h j v hj)
theorem At.get {m : World} {g o j : Nat} {vs : List Value} {v : Value} (h : At m g o vs) (hj : vs[j]? = some v) : m.cell? ⟨g, o + j, none⟩ = some v := h j v hj
theorem At.get0 {m : World} {g o : Nat} {vs : List Value} {v : Value} (h : At m g o vs) (hj : vs[0]? = some v) : m.cell? ⟨g, o, none⟩ = some v := by simpa using h 0 v hj
theorem At.shift {m : World} {g o d : Nat} {vs : List Value} (h : At m g o vs) : At m g (o + d) (vs.drop d) := fun j v hj => by
  rw [Nat.add_assoc]
  exact h (d + j) v (by simpa using hj)
theorem st_oldCut [S : Seat P tab fl] {d : Nat} {t : TypeId} {x : Operand} {g o : Nat} {y : Ty} {cs : List Value} {k : Nat} (T : Tm a n ts) (F : MemE E c m bs w) (hd : Nat.blt d n = true := by exact rfl) (hx : ev ts x = some (.pointer (some ⟨g, o, none⟩)) := by exact rfl)
    (hy : getY tab t = some y := by exact rfl) (ha : y.agg = true := by exact rfl) (hs : y.size = k := by exact rfl) (hA : At m g o cs := by repeat (first | assumption | apply Go.Proofs.Ytniopkoaplkpkaa.Sy.At.shift))
    (h : cutK cs 0 k fun vs => ∀ a', Tm a' n ((d, .agg vs.toArray) :: ts) → wpList P ops Q rest a' w) : wpList P ops Q (⟨some d, .load t x, ty, pos, af, none⟩ :: rest) a w := by
  obtain ⟨vs, h1, h2, h3⟩ := cutK_spec h
  exact st_val (runs_loadAgg T hx hy ha (h1.trans hs.symm) (fun j v hj => F.sub _ _ (hA j v (by simpa using h2 j v hj)))) T hd h3
theorem st_oldAgg [S : Seat P tab fl] {d : Nat} {t : TypeId} {x : Operand} {g o : Nat} {y : Ty} {vs : List Value} (T : Tm a n ts) (F : MemE E c m bs w) (hd : Nat.blt d n = true := by exact rfl) (hx : ev ts x = some (.pointer (some ⟨g, o, none⟩)) := by exact rfl)
    (hy : getY tab t = some y := by exact rfl) (ha : y.agg = true := by exact rfl) (hc : At m g o vs := by first | assumption | exact rfl) (hl : vs.length = y.size := by first | exact rfl | assumption)
    (h : ∀ a', Tm a' n ((d, .agg vs.toArray) :: ts) → wpList P ops Q rest a' w) : wpList P ops Q (⟨some d, .load t x, ty, pos, af, none⟩ :: rest) a w :=
  st_val (runs_loadAgg T hx hy ha hl (fun j v hj => F.sub _ _ (hc j v hj))) T hd h

theorem setK_mono : ∀ {cs : List Value} {o : Nat} {vs : List Value} {K K' : List Value → Prop}, (∀ x, K x → K' x) → setK cs o vs K → setK cs o vs K'
  | cs, 0, [], K, K', hk, h => by cases cs <;> exact hk _ h
  | c :: r, 0, v :: vs, K, K', hk, h => setK_mono (cs := r) (o := 0) (vs := vs) (fun x hx => hk _ hx) h
  | c :: r, o + 1, vs, K, K', hk, h => by
    have h' : setK r o vs fun r' => K (c :: r') := by cases vs <;> exact h
    have h2 := setK_mono (K' := fun r' => K' (c :: r')) (fun x hx => hk _ hx) h'
    cases vs <;> exact h2
  | [], o + 1, vs, K, K', hk, h => by cases vs <;> exact h.elim
  | [], 0, v :: vs, K, K', hk, h => h.elim
theorem setK_all : ∀ (vs cs : List Value) (K : List Value → Prop), cs.length = vs.length → K vs → setK cs 0 vs K := by
  intro vs
  induction vs with
  | nil => intro cs K hl h; cases cs with
    | nil => exact h
    | cons c r => simp at hl
  | cons v r ih =>
    intro cs K hl h
    cases cs with
    | nil => simp at hl
    | cons c k => exact ih k _ (by simpa using hl) h
/-- only block g is another -/
structure OnlyAt (g : Nat) (w w' : World) : Prop where
  os : w'.os = w.os
  tape : w'.tape = w.tape
  output : w'.output = w.output
  size : w'.heap.size = w.heap.size
  block : ∀ k, k ≠ g → w'.heap[k]? = w.heap[k]?
theorem st_storesB [S : Seat P tab fl] {t et : TypeId} {x z : Operand} {g o : Nat} {cs vs : List Value} {v : Value} {y : Ty} (T : Tm a n ts) (F : MemE E c m bs w) (hx : ev ts x = some (.pointer (some ⟨g, o, none⟩))) (hz : ev ts z = some v) (hv : v.cells = vs.toArray)
    (h1 : vs.all (·.oneCell') = true) (hy : getY tab t = some y) (hl : vs.length = y.size) (hk : Take bs g cs et bs')
    (h : setK cs o vs fun cs' => ∀ a' w', Tm a' n ts → MemE E c m (⟨g, cs', et⟩ :: bs') w' → OnlyAt g w w' → wpList P ops Q rest a' w') : wpList P ops Q (⟨none, .store t x z, ty, pos, af, none⟩ :: rest) a w := by
  obtain ⟨h2, h3⟩ := setK_spec h
  have hg := F.get hk
  have hth := there_of hg h3
  have hst := run_storeCells_cells (P := P) g o vs 0 w (fun j hj => by simpa using (hth j hj).1) (fun j hj => by simpa using (hth j hj).2) (fun u hu => by simpa using List.all_eq_true.1 h1 u hu)
  have hsz := run_sizeOf_y (S.ty _ _ hy) w
  rw [← hl] at hsz
  obtain ⟨r1, r2, r3, r4⟩ := setCells_rest (b := g) vs o w
  refine wpList_plain rfl fun K hK => ?_
  unfold Oper.wp
  have hrun : (execOp a.eval ⟨none, .store t x z, ty, pos, af, none⟩).run P w = .ok .skip (w.setCells g o vs) := by
    simp only [Nat.add_zero] at hst
    simp [execOp, T.eval hx, T.eval hz, Instr.storeAt, Instr.sureAddr, storeVar, hv, hsz, hst]
  rw [hrun]
  exact hK _ _ (h2 _ _ (T.skip _) ((F.front hk).set _ (setCells_over vs o cs w h3 hg) (fun k hk => setCells_heap_other vs o w k hk) r1 r2 r3 r4) ⟨r1, r2, r3, r4, fun k hk => setCells_heap_other vs o w k hk⟩)
theorem st_stores [S : Seat P tab fl] {t et : TypeId} {x z : Operand} {g o : Nat} {cs vs : List Value} {v : Value} {y : Ty} (T : Tm a n ts) (F : MemE E c m bs w) (hx : ev ts x = some (.pointer (some ⟨g, o, none⟩))) (hz : ev ts z = some v) (hv : v.cells = vs.toArray)
    (h1 : vs.all (·.oneCell') = true) (hy : getY tab t = some y) (hl : vs.length = y.size) (hk : Take bs g cs et bs')
    (h : setK cs o vs fun cs' => ∀ a' w', Tm a' n ts → MemE E c m (⟨g, cs', et⟩ :: bs') w' → wpList P ops Q rest a' w') : wpList P ops Q (⟨none, .store t x z, ty, pos, af, none⟩ :: rest) a w :=
  st_storesB T F hx hz hv h1 hy hl hk (setK_mono (fun x hx a' w' h1 h2 _ => hx a' w' h1 h2) h)
theorem st_storeOne [S : Seat P tab fl] {t et : TypeId} {x z : Operand} {g o : Nat} {cs : List Value} {v : Value} {y : Ty} (T : Tm a n ts) (F : MemE E c m bs w) (hx : ev ts x = some (.pointer (some ⟨g, o, none⟩)) := by exact rfl) (hz : ev ts z = some v := by exact rfl) (h1 : v.oneCell' = true := by exact rfl)
    (hy : getY tab t = some y := by exact rfl) (hl : y.size = 1 := by exact rfl) (hk : Take bs g cs et bs' := by repeat (first | exact Go.Proofs.Ytniopkoaplkpkaa.Sy.Take.here | apply Go.Proofs.Ytniopkoaplkpkaa.Sy.Take.there))
    (h : setK cs o [v] fun cs' => ∀ a' w', Tm a' n ts → MemE E c m (⟨g, cs', et⟩ :: bs') w' → wpList P ops Q rest a' w') : wpList P ops Q (⟨none, .store t x z, ty, pos, af, none⟩ :: rest) a w :=
  st_stores T F hx hz (by cases v <;> simp_all [Value.cells, Value.oneCell']) (by simp [h1]) hy (by simp [hl]) hk h
theorem st_storeAgg [S : Seat P tab fl] {t et : TypeId} {x z : Operand} {g o : Nat} {cs vs : List Value} {y : Ty} (T : Tm a n ts) (F : MemE E c m bs w) (hx : ev ts x = some (.pointer (some ⟨g, o, none⟩)) := by exact rfl) (hz : ev ts z = some (.agg vs.toArray) := by exact rfl)
    (h1 : vs.all (·.oneCell') = true := by first | exact rfl | assumption) (hy : getY tab t = some y := by exact rfl) (hl : vs.length = y.size := by exact rfl) (hk : Take bs g cs et bs' := by repeat (first | exact Go.Proofs.Ytniopkoaplkpkaa.Sy.Take.here | apply Go.Proofs.Ytniopkoaplkpkaa.Sy.Take.there))
    (h : setK cs o vs fun cs' => ∀ a' w', Tm a' n ts → MemE E c m (⟨g, cs', et⟩ :: bs') w' → wpList P ops Q rest a' w') : wpList P ops Q (⟨none, .store t x z, ty, pos, af, none⟩ :: rest) a w :=
  st_stores T F hx hz rfl h1 hy hl hk h
/-- a whole row -/
theorem st_storeAll [S : Seat P tab fl] {t et : TypeId} {x z : Operand} {g : Nat} {cs vs : List Value} {y : Ty} (T : Tm a n ts) (F : MemE E c m bs w) (hx : ev ts x = some (.pointer (some ⟨g, 0, none⟩)) := by exact rfl) (hz : ev ts z = some (.agg vs.toArray) := by exact rfl)
    (h1 : vs.all (·.oneCell') = true := by first | exact rfl | assumption) (hy : getY tab t = some y := by exact rfl) (hl : vs.length = y.size := by first | exact rfl | assumption) (hk : Take bs g cs et bs' := by repeat (first | exact Go.Proofs.Ytniopkoaplkpkaa.Sy.Take.here | apply Go.Proofs.Ytniopkoaplkpkaa.Sy.Take.there)) (hc : cs.length = vs.length := by first | exact rfl | (simp only [List.length_cons, List.length_nil, Nat.reduceAdd]; omega))
    (h : ∀ a' w', Tm a' n ts → MemE E c m (⟨g, vs, et⟩ :: bs') w' → wpList P ops Q rest a' w') : wpList P ops Q (⟨none, .store t x z, ty, pos, af, none⟩ :: rest) a w := by
  exact st_stores T F hx hz rfl h1 hy hl hk (setK_all _ _ _ hc h)

/-! a struct that is made -/
def fillK (ts : List (Nat × Value)) (offs szs : List Nat) : List (Nat × Operand) → List Value → (List Value → Prop) → Prop
  | [], cs, K => K cs
  | (i, x) :: r, cs, K =>
    match offs[i]?, szs[i]?, ev ts x with
    | some o, some s, some (.agg (.mk l)) => l.length = s ∧ setK cs o l fun cs' => fillK ts offs szs r cs' K
    | some o, some s, some v => (v.oneCell' = true ∧ 1 = s) ∧ setK cs o [v] fun cs' => fillK ts offs szs r cs' K
    | _, _, _ => False
theorem fold_over : ∀ (vs : List Value) (k o : Nat) (cs : List Value), o + k + vs.length ≤ cs.length →
    (vs.zipIdx k).foldl (fun (b : Array Value) (p : Value × Nat) => b.setIfInBounds (o + p.2) p.1) cs.toArray = (overL cs (o + k) vs).toArray
  | [], k, o, cs, _ => by
    have : ∀ (q : Nat) (l : List Value), overL l q [] = l := by
      intro q
      induction q with
      | zero => intro l; cases l <;> rfl
      | succ q ih => intro l; cases l with
        | nil => rfl
        | cons c r => simp only [overL, ih]
    simp [this]
  | v :: r, k, o, cs, h => by
    simp only [List.zipIdx_cons, List.foldl_cons, List.setIfInBounds_toArray]
    rw [show o + k = o + k from rfl, fold_over r (k + 1) o (cs.set (o + k) v) (by simp at h ⊢; omega)]
    congr 1
    generalize hq : o + k = q
    rw [show o + (k + 1) = q + 1 from by omega]
    simp only [List.length_cons] at h
    rw [hq] at h
    clear hq
    induction q generalizing cs with
    | zero => cases cs with
      | nil => simp at h
      | cons c l => cases r <;> rfl
    | succ q ih => cases cs with
      | nil => simp at h
      | cons c l =>
        have := ih l (by simp at h ⊢; omega)
        cases r <;> simp only [overL, List.set_cons_succ, List.cons.injEq, true_and] at this ⊢ <;> exact this
theorem fill_run (T : Tm a n ts) (offs szs : List Nat) (place : Nat → Option (Nat × Nat)) (hp : ∀ i o s, offs[i]? = some o → szs[i]? = some s → place i = some (o, s)) : ∀ (parts : List (Nat × Operand)) (cs : List Value) (K : List Value → Prop),
    fillK ts offs szs parts cs K → ∃ cs', Instr.fill place cs.toArray (parts.map fun p => (p.1, a.eval p.2)) = some cs'.toArray ∧ K cs'
  | [], cs, K, h => ⟨cs, rfl, h⟩
  | (i, x) :: r, cs, K, h => by
    have main : ∀ (o s : Nat) (v : Value) (l : List Value), offs[i]? = some o → szs[i]? = some s → a.eval x = v → v.cells = l.toArray → l.length = s → setK cs o l (fun cs' => fillK ts offs szs r cs' K) →
        ∃ cs', Instr.fill place cs.toArray (((i, x) :: r).map fun p => (p.1, a.eval p.2)) = some cs'.toArray ∧ K cs' := by
      intro o s v l h1 h2 h3 h4 h5 h6
      obtain ⟨h7, h8⟩ := setK_spec h6
      obtain ⟨cs', h9, h10⟩ := fill_run T offs szs place hp r _ K h7
      refine ⟨cs', ?_, h10⟩
      rw [List.map_cons, Instr.fill, hp i o s h1 h2]
      simp only [h3, h4]
      rw [if_neg (by simp; omega)]
      have := fold_over l 0 o cs (by omega)
      simp only [Nat.add_zero] at this
      rw [← h9, ← this]
      congr 1
      simp
    unfold fillK at h
    split at h
    · rename_i o s l h1 h2 h3
      exact main o s _ l h1 h2 (T.eval h3) rfl h.1 h.2
    · rename_i o s v hn h1 h2 h3
      refine main o s v [v] h1 h2 (T.eval h3) ?_ h.1.2 h.2
      cases v <;> simp_all [Value.cells, Value.oneCell']
    · exact h.elim
theorem places_of : ∀ fs : List Field, (fs.all fun f => (P.info? f.type).isSome) = true → fs.mapM (fun f => (P.info? f.type).map fun i => (f.offset, i.size)) = some (fs.map fun f => (f.offset, match P.info? f.type with | some j => j.size | none => 0))
  | [], _ => rfl
  | f :: r, h => by
    simp only [List.all_cons, Bool.and_eq_true] at h
    obtain ⟨i, hi⟩ := Option.isSome_iff_exists.1 h.1
    simp [List.mapM_cons, places_of r h.2, hi]
theorem runs_build [S : Seat P tab fl] {t : TypeId} {parts : List (Nat × Operand)} {y : Ty} {offs szs : List Nat} {z : List Value} {K : List Value → Prop} (T : Tm a n ts) (hy : getY tab t = some y) (hst : y.isSt = true) (ho : y.offs = offs) (hs : y.szs = szs) (hz : y.zero = z)
    (h : fillK ts offs szs parts z K) : ∃ cs, (∀ ty w, Runs P a (.build t parts.toArray) ty w (.agg cs.toArray)) ∧ K cs := by
  obtain ⟨de, i, z0, hde, hi, hz0, _, _, _, h1, h2, _, _, _, _, h3, h4⟩ := tyOf_spec (S.ty _ _ hy)
  rw [hst] at h4
  rw [hz] at h1
  rw [ho] at h2
  rw [hs] at h3
  cases de with
  | struct fs =>
    simp only at h2 h3 h4
    have hz1 : z0.cells = z.toArray := by rw [h1]
    have hall : (fs.toList.all fun f => (P.info? f.type).isSome) = true := by rw [Array.all_toList]; exact h4.symm
    have hpl := places_of (P := P) fs.toList hall
    obtain ⟨cs, hf, hk⟩ := fill_run T offs szs (fun x => (fs.toList.map fun f => (f.offset, match P.info? f.type with | some j => j.size | none => 0)).toArray[x]?) (fun k o q ho1 hs1 => by
      rw [h2] at ho1
      rw [h3] at hs1
      split at ho1
      · simp only [Array.toList_map, List.getElem?_map, Option.map_eq_some_iff] at ho1 hs1
        obtain ⟨f, hf, rfl⟩ := ho1
        obtain ⟨f', hf', rfl⟩ := hs1
        rw [hf] at hf'
        simp at hf'
        subst hf'
        simp only [List.getElem?_toArray, List.getElem?_map, hf, Option.map_some]
        rfl
      · simp at ho1) parts z _ h
    have hb : P.built t (parts.map fun p => (p.1, a.eval p.2)) = some cs.toArray := by
      unfold Program.built
      simp only [hi, hde, hz0, hpl, hz1, hf]
    refine ⟨cs, fun ty w => .of fun _ _ _ _ => ?_, hk⟩
    have hr := run_build (P := P) w t (parts.map fun p => (p.1, a.eval p.2)).toArray cs.toArray (by simpa using hb)
    simp only [execOp, List.map_toArray, Sem.run_bind, hr, Result.andThen_ok, Sem.run_pure]
  | _ => simp at h4

theorem st_build [S : Seat P tab fl] {d : Nat} {t : TypeId} {parts : List (Nat × Operand)} {ag sl sr : Bool} {sz by' : Nat} {z : List Value} {offs szs : List Nat} {el : Nat × Nat} {kd : Option IntKind} (T : Tm a n ts) (hd : Nat.blt d n = true := by exact rfl) (hy : getY tab t = some ⟨ag, sz, by', z, offs, szs, true, el, kd, sl, sr⟩ := by exact rfl)
    (h : fillK ts offs szs parts z fun cs => ∀ a', Tm a' n ((d, .agg cs.toArray) :: ts) → wpList P ops Q rest a' w) : wpList P ops Q (⟨some d, .build t parts.toArray, ty, pos, af, none⟩ :: rest) a w := by
  obtain ⟨cs, h1, h2⟩ := runs_build (P := P) T hy rfl rfl rfl rfl h
  exact st_val (h1 _ _) T hd h2

/-! calls -/
theorem callFunc_run [S : Seat P tab fl] {f : FuncId} (hf : fl.contains f = true) (args : Array Value) (w : World) : (callFunc f args).run P w = .ok (.enter f args) w := by
  have h := S.fn f hf
  unfold entersB at h
  cases hq : P.funcs[f]? with
  | none => rw [hq] at h; cases h
  | some fn =>
    rw [hq] at h
    simp only [Bool.and_eq_true, Bool.not_eq_true'] at h
    obtain ⟨b, hb⟩ := Option.isSome_iff_exists.1 h.1
    have h2 : ¬ fn.name = "runtime.NumGoroutine" := by simpa using h.2
    simp [callFunc, hq, h2, hb]
theorem wp_call [S : Seat P tab fl] {d : Option Tmp} {fx : Operand} {f : FuncId} {args : List Operand} {ats : Array TypeId} {us vs ks : List Value} {gd : Option (Nat × Bool)} {R : Ending → World → Prop} {K : Act → World → Prop} (T : Tm a n ts) (hf : ev ts fx = some (.func (.func f) us.toArray ks.toArray)) (hfl : fl.contains f = true) (ha : evs ts args = some vs)
    (hc : Calls P f (us ++ vs ++ ks).toArray w R) (h : ∀ e w', R e w' → ∃ v, e = .returned v ∧ K (a.put d v) w') : Oper.wp P ⟨d, .call { callee := .value fx, args := args.toArray, argTypes := ats }, ty, pos, af, gd⟩ a w K Q := by
  unfold Oper.wp
  have hrun : (execOp a.eval ⟨d, .call { callee := .value fx, args := args.toArray, argTypes := ats }, ty, pos, af, gd⟩).run P w = .ok (.enter f (us ++ vs ++ ks).toArray) w := by
    have h0 := callFunc_run (P := P) hfl (us ++ vs ++ ks).toArray w
    have he : (us.toArray ++ vs.toArray ++ ks.toArray) = (us ++ vs ++ ks).toArray := by simp
    simp only [execOp, resolve, T.eval hf, Deferred.ofValue, invoke, List.map_toArray, T.evals ha, Sem.run_bind, Sem.run_pure, Result.andThen_ok, he, h0]
  rw [hrun, Oper.upon_enter]
  refine hc.mono fun e w' hr => ?_
  obtain ⟨v, rfl, hk⟩ := h e w' hr
  exact hk
theorem st_call [S : Seat P tab fl] {d : Nat} {fx : Operand} {f : FuncId} {args : List Operand} {ats : Array TypeId} {us vs ks : List Value} {R : Ending → World → Prop} (T : Tm a n ts) (hf : ev ts fx = some (.func (.func f) us.toArray ks.toArray)) (hfl : fl.contains f = true) (ha : evs ts args = some vs) (hd : Nat.blt d n = true)
    (hc : Calls P f (us ++ vs ++ ks).toArray w R) (h : ∀ e w', R e w' → ∃ v, e = .returned v ∧ ∀ a', Tm a' n ((d, v) :: ts) → wpList P ops Q rest a' w') :
    wpList P ops Q (⟨some d, .call { callee := .value fx, args := args.toArray, argTypes := ats }, ty, pos, af, none⟩ :: rest) a w := by
  refine wpList_plain rfl fun K hK => wp_call T hf hfl ha hc fun e w' hr => ?_
  obtain ⟨v, rfl, hk⟩ := h e w' hr
  exact ⟨v, rfl, hK _ _ (hk _ (T.put (by simpa [Nat.blt_eq] using hd) v))⟩
/-- a call that hands back a known value -/
theorem st_callV0 [S : Seat P tab fl] {d : Nat} {f : FuncId} {args : List Operand} {ats : Array TypeId} {vs : List Value} {v : Value} (T : Tm a n ts) (F : MemE E c m bs w) (hfl : fl.contains f = true := by exact rfl) (ha : evs ts args = some vs := by exact rfl) (hd : Nat.blt d n = true := by exact rfl)
    (hc : Calls P f vs.toArray w (RetV w v)) (h : ∀ a' w', Tm a' n ((d, v) :: ts) → MemE E c m bs w' → wpList P ops Q rest a' w') :
    wpList P ops Q (⟨some d, .call { callee := .value (.func f), args := args.toArray, argTypes := ats }, ty, pos, af, none⟩ :: rest) a w :=
  st_call (R := RetV w v) (us := []) (ks := []) T rfl hfl ha hd (by simpa using hc) fun e w' ⟨he, hb⟩ => ⟨v, he, fun a' T' => h a' w' T' (F.below hb)⟩
theorem st_callM0 [S : Seat P tab fl] {d : Nat} {f : FuncId} {args : List Operand} {ats : Array TypeId} {vs : List Value} {R : World → Value → Prop} (T : Tm a n ts) (F : MemE E c m bs w) (hfl : fl.contains f = true := by exact rfl) (ha : evs ts args = some vs := by exact rfl) (hd : Nat.blt d n = true := by exact rfl)
    (hc : Calls P f vs.toArray w (RetM m w R)) (h : ∀ v m' a' w', R m' v → Sub m m' → Tm a' n ((d, v) :: ts) → MemE E c m' bs w' → wpList P ops Q rest a' w') :
    wpList P ops Q (⟨some d, .call { callee := .value (.func f), args := args.toArray, argTypes := ats }, ty, pos, af, none⟩ :: rest) a w :=
  st_call (R := RetM m w R) (us := []) (ks := []) T rfl hfl ha hd (by simpa using hc) fun e w' ⟨v, m', he, hb, h1, h2, h3, hr⟩ => ⟨v, he, fun a' T' => h v m' a' w' hr h1 T' (F.after hb h1 h2 h3)⟩
theorem st_callV [S : Seat P tab fl] {d : Nat} {fx : Operand} {f : FuncId} {args : List Operand} {ats : Array TypeId} {us vs ks : List Value} {v : Value} (T : Tm a n ts) (F : MemE E c m bs w) (hf : ev ts fx = some (.func (.func f) us.toArray ks.toArray)) (hfl : fl.contains f = true) (ha : evs ts args = some vs) (hd : Nat.blt d n = true)
    (hc : Calls P f (us ++ vs ++ ks).toArray w (RetV w v)) (h : ∀ a' w', Tm a' n ((d, v) :: ts) → MemE E c m bs w' → wpList P ops Q rest a' w') :
    wpList P ops Q (⟨some d, .call { callee := .value fx, args := args.toArray, argTypes := ats }, ty, pos, af, none⟩ :: rest) a w :=
  st_call T hf hfl ha hd hc fun e w' ⟨he, hb⟩ => ⟨v, he, fun a' T' => h a' w' T' (F.below hb)⟩
theorem st_callM [S : Seat P tab fl] {d : Nat} {fx : Operand} {f : FuncId} {args : List Operand} {ats : Array TypeId} {us vs ks : List Value} {R : World → Value → Prop} (T : Tm a n ts) (F : MemE E c m bs w) (hf : ev ts fx = some (.func (.func f) us.toArray ks.toArray)) (hfl : fl.contains f = true) (ha : evs ts args = some vs) (hd : Nat.blt d n = true)
    (hc : Calls P f (us ++ vs ++ ks).toArray w (RetM m w R)) (h : ∀ v m' a' w', R m' v → Sub m m' → Tm a' n ((d, v) :: ts) → MemE E c m' bs w' → wpList P ops Q rest a' w') :
    wpList P ops Q (⟨some d, .call { callee := .value fx, args := args.toArray, argTypes := ats }, ty, pos, af, none⟩ :: rest) a w :=
  st_call T hf hfl ha hd hc fun e w' ⟨v, m', he, hb, h1, h2, h3, hr⟩ => ⟨v, he, fun a' T' => h v m' a' w' hr h1 T' (F.after hb h1 h2 h3)⟩

/-! control -/
theorem is_cond {x : Operand} {p q : Code} (h : (Code.cond x p q).wp P Q a w) : (Code.cond x p q).wp P Q a w := h
theorem is_region {id : Nat} {l : List Oper} (h : (Code.region id l.toArray false).wp P Q a w) : (Code.region id l.toArray false).wp P Q a w := h

theorem st_true {x : Operand} {p q : Code} (T : Tm a n ts) (hc : ev ts x = some (.bool true) := by exact rfl) (h : p.wp P Q a w) : (Code.cond x p q).wp P Q a w := wp_cond_true (T.eval hc) h
theorem st_false {x : Operand} {p q : Code} (T : Tm a n ts) (hc : ev ts x = some (.bool false) := by exact rfl) (h : q.wp P Q a w) : (Code.cond x p q).wp P Q a w := wp_cond_false (T.eval hc) h
theorem st_cond {x : Operand} {p q : Code} {b : Bool} (T : Tm a n ts) (hc : ev ts x = some (.bool b)) (h1 : b = true → p.wp P Q a w) (h2 : b = false → q.wp P Q a w) : (Code.cond x p q).wp P Q a w := by
  cases b
  · exact wp_cond_false (T.eval hc) (h2 rfl)
  · exact wp_cond_true (T.eval hc) (h1 rfl)

theorem enter {f : FuncId} {fn : Func} {body : Code} {vs : List Value} {R : Ending → World → Prop} (hf : P.funcs[f]? = some fn) (hb : fn.body = some body) (hn : fn.ntmps = n) (hle : Nat.ble vs.length n = true)
    (h : ∀ a, Tm a n (enum 0 vs) → body.wp P (bodyPost P fn R) a w) : Calls P f vs.toArray w R := by
  have hle' : vs.length ≤ n := by simpa using hle
  refine calls_of_wp hf hb (h _ ⟨rfl, by simp [hn]; omega, fun i v hg => ?_⟩)
  obtain ⟨_, h2⟩ := enum_get vs 0 i v hg
  have hlt : i < vs.length := (List.getElem?_eq_some_iff.1 (by simpa using h2)).1
  simp only
  rw [Array.getElem?_append_left (by simpa using hlt)]
  simpa using h2

/-- the results -/
inductive ResV (tab : List (Nat × Ty)) (ts : List (Nat × Value)) (bs : List Blk) : List ResultVar → List Value → Prop
  | nil : ResV tab ts bs [] []
  | tmp {t : Nat} {v : Value} {rs : List ResultVar} {vs : List Value} (h : getT ts t = some v) (r : ResV tab ts bs rs vs) : ResV tab ts bs (.tmp t :: rs) (v :: vs)
  | row {t : Nat} {ty et : TypeId} {g : Nat} {cs : List Value} {bs' : List Blk} {y : Ty} {rs : List ResultVar} {vs : List Value} (h : getT ts t = some (.pointer (some ⟨g, 0, none⟩))) (hy : getY tab ty = some y) (ha : y.agg = true) (hk : Take bs g cs et bs') (hl : cs.length = y.size) (r : ResV tab ts bs rs vs) : ResV tab ts bs (.cell t ty :: rs) (.agg cs.toArray :: vs)
  | one {t : Nat} {ty et : TypeId} {g : Nat} {cs : List Value} {v : Value} {bs' : List Blk} {y : Ty} {rs : List ResultVar} {vs : List Value} (h : getT ts t = some (.pointer (some ⟨g, 0, none⟩))) (hy : getY tab ty = some y) (ha : y.agg = false) (hk : Take bs g cs et bs') (hc : cs[0]? = some v) (r : ResV tab ts bs rs vs) : ResV tab ts bs (.cell t ty :: rs) (v :: vs)
def resOne (tmps : Array Value) : ResultVar → Sem Value
  | .tmp t => pure (tmps.getD t undef)
  | .cell x t => do loadVar t (← asAddr (tmps.getD x undef))
theorem mapM_res {w : World} {f : ResultVar → Sem Value} {r : ResultVar} {rs : List ResultVar} {v : Value} {vs : List Value} (h1 : (f r).run P w = .ok v w) (h2 : (rs.mapM f).run P w = .ok vs w) : ((r :: rs).mapM f).run P w = .ok (v :: vs) w := by
  simp only [List.mapM_cons, Sem.run_bind, h1, h2, Result.andThen_ok, Sem.run_pure]
theorem ResV.run [S : Seat P tab fl] (T : Tm a n ts) (F : MemE E c m bs w) {rs : List ResultVar} {vs : List Value} (h : ResV tab ts bs rs vs) : (rs.mapM (resOne a.tmps)).run P w = .ok vs w := by
  induction h with
  | nil => rfl
  | @tmp t v rs vs h _ ih =>
    have h1 : a.tmps.getD t undef = v := T.eval (x := .tmp t) h
    exact mapM_res (by simp only [resOne, h1, Sem.run_pure]) ih
  | @row t ty et g cs bs' y rs vs h hy ha hk hl _ ih =>
    have h1 : a.tmps.getD t undef = .pointer (some ⟨g, 0, none⟩) := T.eval (x := .tmp t) h
    have hagg := run_isAgg_y (S.ty _ _ hy) w
    have hsz := run_sizeOf_y (S.ty _ _ hy) w
    rw [ha] at hagg
    rw [← hl] at hsz
    have hld : (loadCells ⟨g, 0, none⟩ cs.length).run P w = .ok cs.toArray w := run_loadCells_list (P := P) w ⟨g, 0, none⟩ cs (fun j v hv => by rw [addr_add]; exact range_of (F.get hk) (o := 0) (vs := cs) (by simp) j v hv)
    exact mapM_res (by simp only [resOne, h1]; simp [asAddr, loadVar, hagg, hsz, hld]) ih
  | @one t ty et g cs v bs' y rs vs h hy ha hk hc _ ih =>
    have h1 : a.tmps.getD t undef = .pointer (some ⟨g, 0, none⟩) := T.eval (x := .tmp t) h
    have hagg := run_isAgg_y (S.ty _ _ hy) w
    rw [ha] at hagg
    have hcell : w.cell? ⟨g, 0, none⟩ = some v := by simp [World.cell?, F.get hk, hc]
    exact mapM_res (by simp only [resOne, h1]; simp [asAddr, loadVar, hagg, load, Sem.run, hcell]) ih
def retOf : List Value → Value
  | [v] => v
  | vs => .tuple vs.toArray
theorem results_run [S : Seat P tab fl] (T : Tm a n ts) (F : MemE E c m bs w) {fn : Func} {rs : List ResultVar} {vs : List Value} (hf : fn.results = rs.toArray) (h : ResV tab ts bs rs vs) :
    (results fn a.tmps).run P w = .ok (retOf vs) w := by
  have h1 := h.run (P := P) T F
  have h2 : results fn a.tmps = (do
      let us ← fn.results.mapM (resOne a.tmps)
      pure (if h : us.size = 1 then us[0] else .tuple us)) := by
    unfold results
    congr 1
  rw [h2, hf, List.mapM_toArray]
  simp only [Sem.run_bind, Sem.run_map, h1, Result.andThen_ok, Sem.run_pure]
  match vs with
  | [] => rfl
  | [v] => rfl
  | v :: u :: r => simp [retOf]
theorem st_ret1 [S : Seat P tab fl] (T : Tm a n ts) (F : MemE E c m bs w) {fn : Func} {r : ResultVar} {v : Value} {R : Ending → World → Prop} (hf : fn.results = #[r]) (h : ResV tab ts bs [r] [v]) (hR : R (.returned v) w) : bodyPost P fn R .ret a w :=
  bodyPost_ret (results_run T F (rs := [r]) (by rw [hf]) h) T.dn hR
theorem st_ret2 [S : Seat P tab fl] (T : Tm a n ts) (F : MemE E c m bs w) {fn : Func} {r r2 : ResultVar} {rs : List ResultVar} {v v2 : Value} {vs : List Value} {R : Ending → World → Prop} (hf : fn.results = (r :: r2 :: rs).toArray) (h : ResV tab ts bs (r :: r2 :: rs) (v :: v2 :: vs)) (hR : R (.returned (.tuple (v :: v2 :: vs).toArray)) w) : bodyPost P fn R .ret a w :=
  bodyPost_ret (results_run T F hf h) T.dn hR
end
end Sy
end Go.Proofs.Ytniopkoaplkpkaa
namespace Go.Proofs.Ytniopkoaplkpkaa
open Go.RowKit
set_option linter.unusedVariables false
namespace Sy
section
variable {P : Program} {tab : List (Nat × Ty)} {fl : List Nat} {a : Act} {n : Nat} {ts : List (Nat × Value)} {w : World} {ty : TypeId}
/-- two structs stand to each other so -/
def EqAgg (P : Program) (op : BinOp) (t : TypeId) (xs ys : List Value) (b : Bool) : Prop := ∀ (x y : Operand) (W : World), (do eqGuard op t x y (.agg xs.toArray) (.agg ys.toArray); binOp op t (.agg xs.toArray) (.agg ys.toArray) : Sem Value).run P W = .ok (.bool b) W
theorem runs_eqAgg (T : Tm a n ts) {op : BinOp} {x y : Operand} {t t2 : TypeId} {xs ys : List Value} {b : Bool} (hx : ev ts x = some (.agg xs.toArray) := by exact rfl) (hy : ev ts y = some (.agg ys.toArray) := by exact rfl) (h : EqAgg P op t xs ys b := by assumption) : Runs P a (.binOp op t x y t2) ty w (.bool b) := .of fun _ _ _ _ => by
  have h' := h x y w
  simp only [execOp, T.eval hx, T.eval hy]
  rw [Sem.run_bind, h']
  simp
theorem runs_eqB (T : Tm a n ts) {x y : Operand} {t t2 : TypeId} {p q b : Bool} (hx : ev ts x = some (.bool p) := by exact rfl) (hy : ev ts y = some (.bool q) := by exact rfl) (ht : P.underlying t = some .bool := by assumption) (hb : (p == q) = b := by first | assumption | exact (rfl : _ = true) | exact (rfl : _ = false) | exact rfl) : Runs P a (.binOp .eql t x y t2) ty w (.bool b) := .of fun _ _ _ _ => by
  subst hb
  have h1 : (binOp .eql t (.bool p) (.bool q)).run P w = ((Op.equalIn 10000 t (.bool p) (.bool q)).run P w).andThen fun b w' => .ok (.bool b) w' := by
    simp only [binOp]
    simp [Op.equal, Op.maxDepth]
  have h2 : (eqGuard .eql t x y (.bool p) (.bool q)).run P w = .ok () w := rfl
  simp only [execOp, T.eval hx, T.eval hy, Sem.run_bind, h2, Result.andThen_ok, h1, run_equalIn_bool' w 9999 t p q ht, Sem.run_pure]
theorem runs_neB (T : Tm a n ts) {x y : Operand} {t t2 : TypeId} {p q b : Bool} (hx : ev ts x = some (.bool p) := by exact rfl) (hy : ev ts y = some (.bool q) := by exact rfl) (ht : P.underlying t = some .bool := by assumption) (hb : (p == q) = b := by first | assumption | exact (rfl : _ = true) | exact (rfl : _ = false) | exact rfl) : Runs P a (.binOp .neq t x y t2) ty w (.bool (!b)) := .of fun _ _ _ _ => by
  subst hb
  have h1 : (binOp .neq t (.bool p) (.bool q)).run P w = ((Op.equalIn 10000 t (.bool p) (.bool q)).run P w).andThen fun b w' => .ok (.bool (!b)) w' := by
    simp only [binOp]
    simp [Op.equal, Op.maxDepth]
  have h2 : (eqGuard .neq t x y (.bool p) (.bool q)).run P w = .ok () w := rfl
  simp only [execOp, T.eval hx, T.eval hy, Sem.run_bind, h2, Result.andThen_ok, h1, run_equalIn_bool' w 9999 t p q ht, Sem.run_pure]
/-- a struct whose fields are all numbers -/
def flatB (P : Program) (t : TypeId) : Bool :=
  (match P.underlying t with
  | some (.struct fs) => fs.all fun f => f.name != "_" && (match P.underlying f.type with | some (.int _) => true | _ => false)
  | _ => false) && !P.stoodInHeld t && !P.eqGuardType P.depth t
theorem eqFields_flat (d : Nat) (xs ys : List Value) (W : World) : ∀ fs : List Field, (∀ f ∈ fs, f.name ≠ "_" ∧ ∃ k, P.underlying f.type = some (.int k)) → (∀ f ∈ fs, ∃ k p q, xs[f.offset]? = some (.int k p) ∧ ys[f.offset]? = some (.int k q)) →
    (Op.eqFields (d + 1) xs.toArray ys.toArray fs).run P W = .ok (fs.all fun f => match xs[f.offset]?, ys[f.offset]? with | some (.int _ p), some (.int _ q) => p == q | _, _ => false) W
  | [], _, _ => rfl
  | f :: r, h1, h2 => by
    obtain ⟨hn, k0, hk⟩ := h1 f (by simp)
    obtain ⟨k, p, q, hp, hq⟩ := h2 f (by simp)
    have ih := eqFields_flat d xs ys W r (fun f hf => h1 f (by simp [hf])) (fun f hf => h2 f (by simp [hf]))
    have hagg : (isAgg f.type).run P W = .ok false W := by simp [isAgg, run_underlying hk]
    have hpx : (part f.type xs.toArray f.offset).run P W = .ok (.int k p) W := by simp [part, hagg, hp]
    have hpy : (part f.type ys.toArray f.offset).run P W = .ok (.int k q) W := by simp [part, hagg, hq]
    rw [Op.eqFields, if_pos hn]
    simp only [Sem.run_bind, hpx, hpy, Result.andThen_ok, run_equalIn_int W d f.type k k0 p q hk]
    simp only [List.all_cons, hp, hq]
    cases hpq : (p == q)
    · simp
    · simp only [Bool.not_true, Bool.false_eq_true, if_false, Bool.true_and]
      exact ih
theorem eqAgg_flat {t : TypeId} {fs : Array Field} {xs ys : List Value} {b : Bool} (ht : P.underlying t = some (.struct fs)) (hf : flatB P t = true) (hv : ∀ f ∈ fs.toList, ∃ k p q, xs[f.offset]? = some (.int k p) ∧ ys[f.offset]? = some (.int k q))
    (hb : (fs.toList.all fun f => match xs[f.offset]?, ys[f.offset]? with | some (.int _ p), some (.int _ q) => p == q | _, _ => false) = b) : EqAgg P .eql t xs ys b ∧ EqAgg P .neq t xs ys (!b) := by
  unfold flatB at hf
  rw [ht] at hf
  simp only [Bool.and_eq_true, Bool.not_eq_true'] at hf
  obtain ⟨⟨hall, hst⟩, hgu⟩ := hf
  have hfo : P.fieldsOf t = fs := by unfold Program.fieldsOf; rw [ht]
  have h1 : ∀ f ∈ fs.toList, f.name ≠ "_" ∧ ∃ k, P.underlying f.type = some (.int k) := fun f hfm => by
    have := (Array.all_eq_true_iff_forall_mem.1 hall) f (by simpa using hfm)
    simp only [Bool.and_eq_true, bne_iff_ne] at this
    refine ⟨this.1, ?_⟩
    have h2 := this.2
    split at h2
    · rename_i k hk; exact ⟨k, hk⟩
    · cases h2
  have he : ∀ W, (Op.equalIn 10000 t (.agg xs.toArray) (.agg ys.toArray)).run P W = .ok b W := fun W => by
    rw [run_equalIn_agg W 9999 t _ _ (by rw [hfo]; exact ht) hst, hfo, eqFields_flat 9998 xs ys W fs.toList h1 hv, hb]
  constructor
  · intro x y W
    rw [Sem.run_bind, run_eqGuard_agg W .eql t x y _ _ hgu, Result.andThen_ok, run_eql_struct, he]; rfl
  · intro x y W
    rw [Sem.run_bind, run_eqGuard_agg W .neq t x y _ _ hgu, Result.andThen_ok, run_neq_struct, he]; rfl
/-- a struct of numbers is as it is -/
theorem eqAgg_refl {t : TypeId} {fs : Array Field} {xs : List Value} (ht : P.underlying t = some (.struct fs)) (hf : flatB P t = true) (hv : ∀ f ∈ fs.toList, ∃ k p, xs[f.offset]? = some (.int k p)) : EqAgg P .eql t xs xs true ∧ EqAgg P .neq t xs xs false := by
  refine eqAgg_flat (b := true) ht hf (fun f hfm => let ⟨k, p, h⟩ := hv f hfm; ⟨k, p, p, h, h⟩) ?_
  rw [List.all_eq_true]
  intro f hfm
  obtain ⟨k, p, h⟩ := hv f hfm
  simp [h]
end
end Sy
end Go.Proofs.Ytniopkoaplkpkaa
namespace Go.Proofs.Ytniopkoaplkpkaa
open Go.RowKit
set_option linter.unusedVariables false
set_option linter.unusedSimpArgs false
namespace Sy
/-- the same, or two whole numbers of one kind -/
def LikeV (x y : Value) : Prop := x = y ∨ ∃ k a b, x = .int k a ∧ y = .int k b
theorem LikeV.int {k : IntKind} {a : Int} {y : Value} (h : LikeV (.int k a) y) : ∃ b, y = .int k b := by
  rcases h with h | ⟨k', a', b, h1, h2⟩
  · exact ⟨a, h.symm⟩
  · cases h1
    exact ⟨b, h2⟩
theorem LikeV.slice {a : Option Addr} {n cap : Nat} {y : Value} (h : LikeV (.slice a n cap) y) : y = .slice a n cap := by
  rcases h with h | ⟨k', a', b, h1, h2⟩
  · exact h.symm
  · cases h1
def LikeO (o1 o2 : Option Obj) : Prop := ∀ (cs : Array Value) (t : TypeId), o1 = some (.cells cs t (0, 0)) → ∃ cs' : Array Value, o2 = some (.cells cs' t (0, 0)) ∧ ∀ (i : Nat) (v : Value), cs[i]? = some v → ∃ v', cs'[i]? = some v' ∧ LikeV v v'
theorem LikeO.refl (o : Option Obj) : LikeO o o := fun cs t h => ⟨cs, h, fun i v hv => ⟨v, hv, .inl rfl⟩⟩
/-- the blocks from lo up to hi are as they were in w1, but for whole numbers -/
def LikeE (lo hi : Nat) (w1 : World) : Ext where
  S k := lo ≤ k ∧ k < hi
  R w := (∀ k, lo ≤ k → k < hi → k < w.heap.size) ∧ ∀ k, lo ≤ k → k < hi → LikeO w1.heap[k]? w.heap[k]?
  stab w w' h hr := by
    refine ⟨fun k h1 h2 => ?_, fun k h1 h2 => by rw [h k ⟨h1, h2⟩]; exact hr.2 k h1 h2⟩
    have e := h k ⟨h1, h2⟩
    have hlt := hr.1 k h1 h2
    have : w'.heap[k]? ≠ none := by rw [e]; simp; omega
    simpa using this
  dom w k hr hk := hr.1 k hk.1 hk.2
/-- the blocks from lo up to hi are as they were in w1 -/
def FrozE (lo hi : Nat) (w1 : World) : Ext where
  S k := lo ≤ k ∧ k < hi
  R w := (∀ k, lo ≤ k → k < hi → k < w.heap.size) ∧ ∀ k, lo ≤ k → k < hi → w.heap[k]? = w1.heap[k]?
  stab w w' h hr := by
    refine ⟨fun k h1 h2 => ?_, fun k h1 h2 => by rw [h k ⟨h1, h2⟩]; exact hr.2 k h1 h2⟩
    have e := h k ⟨h1, h2⟩
    have hlt := hr.1 k h1 h2
    have : w'.heap[k]? ≠ none := by rw [e]; simp; omega
    simpa using this
  dom w k hr hk := hr.1 k hk.1 hk.2
section
variable {E : Ext} {c : Cx} {m w : World} {bs : List Blk}
/-- what a call has made stands -/
theorem MemE.froz (F : MemE E c m bs w) {w' : World} (hb : Below w.heap.size w w') : MemE (FrozE w.heap.size w'.heap.size w') c m bs w' := by
  have F' := F.below hb
  refine ⟨F'.kept, F'.sub0, F'.sub, F'.fresh, F'.own, F'.nodup, ⟨fun k _ h => h, fun k _ _ => rfl⟩, fun k hk => ⟨.inl (Nat.le_trans F.size hk.1), fun hm => ?_, fun i s => cell_none F.sub hk.1 i s⟩⟩
  obtain ⟨b, hbm, he⟩ := List.mem_map.1 hm
  have := F.lt hbm
  have := hk.1
  omega
theorem MemE.like {lo hi : Nat} {w1 : World} (F : MemE (FrozE lo hi w1) c m bs w) : MemE (LikeE lo hi w1) c m bs w :=
  ⟨F.kept, F.sub0, F.sub, F.fresh, F.own, F.nodup, ⟨F.ext.1, fun k h1 h2 => by rw [F.ext.2 k h1 h2]; exact LikeO.refl _⟩, F.loose⟩
end
theorem overL_one : ∀ (cs : List Value) (o : Nat) (v : Value), o < cs.length → overL cs o [v] = cs.set o v
  | c :: r, 0, v, h => by cases r <;> rfl
  | c :: r, o + 1, v, h => by simp only [overL, List.set_cons_succ]; rw [overL_one r o v (by simpa using h)]
section
variable {P : Program} {tab : List (Nat × Ty)} {fl : List Nat} {a : Act} {n : Nat} {ts : List (Nat × Value)} {w : World} {ty : TypeId} {pos : String} {af : Array Edge}
  {ops : Array Oper} {Q : Exit → Act → World → Prop} {rest : List Oper} {c : Cx} {m : World} {bs bs' : List Blk}
variable {lo hi : Nat} {w1 : World} {g o : Nat} {cs : Array Value} {et : TypeId}
theorem likeCell {E : Ext} (F : MemE (LikeE lo hi w1) c m bs w) (h1 : lo ≤ g) (h2 : g < hi) (hc : w1.heap[g]? = some (.cells cs et (0, 0))) {v : Value} (hv : cs[o]? = some v) : ∃ v', w.cell? ⟨g, o, none⟩ = some v' ∧ LikeV v v' := by
  obtain ⟨cs', e1, e2⟩ := F.ext.2 g h1 h2 cs et hc
  obtain ⟨v', e3, e4⟩ := e2 o v hv
  exact ⟨v', by simp [World.cell?, e1, e3], e4⟩
theorem st_loadLI [S : Seat P tab fl] {d : Nat} {t : TypeId} {x : Operand} {y : Ty} {k : IntKind} {v : Int} (T : Tm a n ts) (F : MemE (LikeE lo hi w1) c m bs w) (h1 : lo ≤ g) (h2 : g < hi) (hc : w1.heap[g]? = some (.cells cs et (0, 0))) (hv : cs[o]? = some (.int k v)) (hx : ev ts x = some (.pointer (some ⟨g, o, none⟩)) := by exact rfl)
    (hd : Nat.blt d n = true := by exact rfl) (hy : getY tab t = some y := by exact rfl) (ha : y.agg = false := by exact rfl)
    (h : ∀ (u : Int) a', Tm a' n ((d, .int k u) :: ts) → wpList P ops Q rest a' w) : wpList P ops Q (⟨some d, .load t x, ty, pos, af, none⟩ :: rest) a w := by
  obtain ⟨v', e1, e2⟩ := likeCell (E := E0) F h1 h2 hc hv
  obtain ⟨b, rfl⟩ := e2.int
  exact st_val (runs_loadOne T hx hy ha e1) T hd (h b)
theorem st_loadLS [S : Seat P tab fl] {d : Nat} {t : TypeId} {x : Operand} {y : Ty} {s : Option Addr} {len cap : Nat} (T : Tm a n ts) (F : MemE (LikeE lo hi w1) c m bs w) (h1 : lo ≤ g) (h2 : g < hi) (hc : w1.heap[g]? = some (.cells cs et (0, 0))) (hv : cs[o]? = some (.slice s len cap)) (hx : ev ts x = some (.pointer (some ⟨g, o, none⟩)) := by exact rfl)
    (hd : Nat.blt d n = true := by exact rfl) (hy : getY tab t = some y := by exact rfl) (ha : y.agg = false := by exact rfl)
    (h : ∀ a', Tm a' n ((d, .slice s len cap) :: ts) → wpList P ops Q rest a' w) : wpList P ops Q (⟨some d, .load t x, ty, pos, af, none⟩ :: rest) a w := by
  obtain ⟨v', e1, e2⟩ := likeCell (E := E0) F h1 h2 hc hv
  have := e2.slice
  subst this
  exact st_val (runs_loadOne T hx hy ha e1) T hd h
theorem st_storeL [S : Seat P tab fl] {t : TypeId} {x z : Operand} {y : Ty} {k : IntKind} {v u : Int} (T : Tm a n ts) (F : MemE (LikeE lo hi w1) c m bs w) (h1 : lo ≤ g) (h2 : g < hi) (hc : w1.heap[g]? = some (.cells cs et (0, 0))) (hv : cs[o]? = some (.int k v)) (hx : ev ts x = some (.pointer (some ⟨g, o, none⟩)) := by exact rfl)
    (hz : ev ts z = some (.int k u) := by exact rfl) (hy : getY tab t = some y := by exact rfl) (hl : y.size = 1 := by exact rfl)
    (h : ∀ a' w', Tm a' n ts → MemE (LikeE lo hi w1) c m bs w' → wpList P ops Q rest a' w') : wpList P ops Q (⟨none, .store t x z, ty, pos, af, none⟩ :: rest) a w := by
  obtain ⟨cs', e1, e2⟩ := F.ext.2 g h1 h2 cs et hc
  obtain ⟨v', e3, e4⟩ := e2 o _ hv
  have hlt : o < cs'.size := (Array.getElem?_eq_some_iff.1 e3).1
  have hhg : w.heap[g]? = some (.cells cs'.toList.toArray et (0, 0)) := by simpa using e1
  have hth := there_of hhg (o := o) (n := 1) (by simp; omega)
  have hst := run_storeCells_cells (P := P) g o [.int k u] 0 w (fun j hj => by simpa using (hth j hj).1) (fun j hj => by simpa using (hth j hj).2) (fun u hu => by simp at hu; subst hu; rfl)
  have hsz := run_sizeOf_y (S.ty _ _ hy) w
  rw [hl] at hsz
  obtain ⟨r1, r2, r3, r4⟩ := setCells_rest (b := g) [.int k u] o w
  have hov := setCells_over [.int k u] o cs'.toList w (by simp; omega) hhg
  have hoth : ∀ j, j ≠ g → (w.setCells g o [.int k u]).heap[j]? = w.heap[j]? := fun j hj => setCells_heap_other _ o w j hj
  have hloose := F.loose g ⟨h1, h2⟩
  have F2 : MemE (LikeE lo hi w1) c m bs (w.setCells g o [.int k u]) := by
    refine ⟨⟨r1.trans F.kept.os, r2.trans F.kept.tape, r3.trans F.kept.output, by rw [r4]; exact F.kept.size, fun j hj hnx => ?_⟩, F.sub0, fun p v e => ?_, F.fresh, fun b hb => ?_, F.nodup, ⟨fun j hj hj' => by rw [r4]; exact F.ext.1 j hj hj', fun j hj hj' => ?_⟩, F.loose⟩
    · rw [hoth j (fun e => by
        subst e
        rcases hloose.1 with hg | hg
        · omega
        · exact hnx hg)]
      exact F.kept.block j hj hnx
    · have hp : p.block ≠ g := fun e' => by
        have := hloose.2.2 p.off p.spot
        obtain ⟨pb, po, ps⟩ := p
        subst e'
        rw [this] at e
        cases e
      rw [World.cell?_of_block (hoth _ hp)]
      exact F.sub p v e
    · have hne : b.adr ≠ g := fun e => hloose.2.1 (List.mem_map.2 ⟨b, hb, e⟩)
      have h := F.own b hb
      exact ⟨h.1, by rw [hoth _ hne]; exact h.2.1, h.2.2⟩
    · by_cases hjg : j = g
      · subst hjg
        intro ds dt hd
        obtain ⟨ds', q1, q2⟩ := F.ext.2 j h1 h2 ds dt hd
        rw [e1] at q1
        simp at q1
        obtain ⟨rfl, rfl⟩ := q1
        rw [hc] at hd
        simp at hd
        obtain ⟨rfl, -⟩ := hd
        refine ⟨_, hov, fun i x0 hx0 => ?_⟩
        obtain ⟨x', q3, q4⟩ := q2 i x0 hx0
        rw [overL_one _ _ _ (by simpa using hlt)]
        by_cases hio : i = o
        · subst hio
          rw [hv] at hx0
          simp at hx0
          subst hx0
          exact ⟨.int k u, by simp [hlt], .inr ⟨k, v, u, rfl, rfl⟩⟩
        · refine ⟨x', ?_, q4⟩
          rw [← q3]
          simp [List.getElem?_set_ne (fun e => hio e.symm)]
      · rw [hoth j hjg]
        exact F.ext.2 j hj hj'
  refine wpList_plain rfl fun K hK => ?_
  unfold Oper.wp
  have hrun : (execOp a.eval ⟨none, .store t x z, ty, pos, af, none⟩).run P w = .ok .skip (w.setCells g o [.int k u]) := by
    simp only [Nat.add_zero] at hst
    simp [execOp, T.eval hx, T.eval hz, Instr.storeAt, Instr.sureAddr, storeVar, Value.cells, hsz, hst]
  rw [hrun]
  exact hK _ _ (h _ _ (T.skip _) F2)
end
end Sy
end Go.Proofs.Ytniopkoaplkpkaa
