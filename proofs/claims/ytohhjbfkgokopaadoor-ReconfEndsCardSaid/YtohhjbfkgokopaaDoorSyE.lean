/- Flat structs of numbers compared, in the walk that names what it knows. Over any program. No condition. -/
import Derived.Test.YtohhjbfkgokopaaDoorSyC
import Derived.Laws.StructEq
namespace Go.Proofs.YtohhjbfkgokopaaDoor
open Go.RowKit
set_option linter.unusedVariables false
namespace Sy
section
variable {P : Program} {tab : List (Nat × Ty)} {fl : List Nat} {a : Act} {n : Nat} {ts : List (Nat × Value)} {w : World} {ty : TypeId}
/-- two structs stand to each other so -/
def EqAgg (P : Program) (op : BinOp) (t : TypeId) (xs ys : List Value) (b : Bool) : Prop := ∀ (x y : Operand) (W : World), (do eqGuard op t x y (.agg xs.toArray) (.agg ys.toArray); binOp op t (.agg xs.toArray) (.agg ys.toArray) : Sem Value).run P W = .ok (.bool b) W
theorem runs_eqAgg (T : Tm a n ts) {op : BinOp} {x y : Operand} {t t2 : TypeId} {xs ys : List Value} {b : Bool} (hx : ev ts x = some (.agg xs.toArray) := by exact rfl) (hy : ev ts y = some (.agg ys.toArray) := by exact rfl) (h : EqAgg P op t xs ys b := by assumption) : Runs P a (.binOp op t x y t2) ty w (.bool b) := .of fun _ _ _ _ => by
  have h' := h x y w
  simp only [execOp, T.eval hx, T.eval hy]
  rw [Sem.run_bind, h']
  simp
theorem runs_eqB (T : Tm a n ts) {x y : Operand} {t t2 : TypeId} {p q b : Bool} (hx : ev ts x = some (.bool p) := by exact rfl) (hy : ev ts y = some (.bool q) := by exact rfl) (ht : P.underlying t = some .bool := by assumption) (hb : (p == q) = b := by first | assumption | exact (rfl : _ = true) | exact (rfl : _ = false) | exact rfl) : Runs P a (.binOp .eql t x y t2) ty w (.bool b) := .of fun _ _ _ _ => by
  subst hb
  have h1 : (binOp .eql t (.bool p) (.bool q)).run P w = ((Op.equalIn 10000 t (.bool p) (.bool q)).run P w).andThen fun b w' => .ok (.bool b) w' := by
    simp only [binOp]
    simp [Op.equal, Op.maxDepth]
  have h2 : (eqGuard .eql t x y (.bool p) (.bool q)).run P w = .ok () w := rfl
  simp only [execOp, T.eval hx, T.eval hy, Sem.run_bind, h2, Result.andThen_ok, h1, run_equalIn_bool' w 9999 t p q ht, Sem.run_pure]
theorem runs_neB (T : Tm a n ts) {x y : Operand} {t t2 : TypeId} {p q b : Bool} (hx : ev ts x = some (.bool p) := by exact rfl) (hy : ev ts y = some (.bool q) := by exact rfl) (ht : P.underlying t = some .bool := by assumption) (hb : (p == q) = b := by first | assumption | exact (rfl : _ = true) | exact (rfl : _ = false) | exact rfl) : Runs P a (.binOp .neq t x y t2) ty w (.bool (!b)) := .of fun _ _ _ _ => by
  subst hb
  have h1 : (binOp .neq t (.bool p) (.bool q)).run P w = ((Op.equalIn 10000 t (.bool p) (.bool q)).run P w).andThen fun b w' => .ok (.bool (!b)) w' := by
    simp only [binOp]
    simp [Op.equal, Op.maxDepth]
  have h2 : (eqGuard .neq t x y (.bool p) (.bool q)).run P w = .ok () w := rfl
  simp only [execOp, T.eval hx, T.eval hy, Sem.run_bind, h2, Result.andThen_ok, h1, run_equalIn_bool' w 9999 t p q ht, Sem.run_pure]
/-- a struct whose fields are all numbers -/
def flatB (P : Program) (t : TypeId) : Bool :=
  (match P.underlying t with
  | some (.struct fs) => fs.all fun f => f.name != "_" && (match P.underlying f.type with | some (.int _) => true | _ => false)
  | _ => false) && !P.stoodInHeld t && !P.eqGuardType P.depth t
theorem eqFields_flat (d : Nat) (xs ys : List Value) (W : World) : ∀ fs : List Field, (∀ f ∈ fs, f.name ≠ "_" ∧ ∃ k, P.underlying f.type = some (.int k)) → (∀ f ∈ fs, ∃ k p q, xs[f.offset]? = some (.int k p) ∧ ys[f.offset]? = some (.int k q)) →
    (Op.eqFields (d + 1) xs.toArray ys.toArray fs).run P W = .ok (fs.all fun f => match xs[f.offset]?, ys[f.offset]? with | some (.int _ p), some (.int _ q) => p == q | _, _ => false) W
  | [], _, _ => rfl
  | f :: r, h1, h2 => by
    obtain ⟨hn, k0, hk⟩ := h1 f (by simp)
    obtain ⟨k, p, q, hp, hq⟩ := h2 f (by simp)
    have ih := eqFields_flat d xs ys W r (fun f hf => h1 f (by simp [hf])) (fun f hf => h2 f (by simp [hf]))
    have hagg : (isAgg f.type).run P W = .ok false W := by simp [isAgg, run_underlying hk]
    have hpx : (part f.type xs.toArray f.offset).run P W = .ok (.int k p) W := by simp [part, hagg, hp]
    have hpy : (part f.type ys.toArray f.offset).run P W = .ok (.int k q) W := by simp [part, hagg, hq]
    rw [Op.eqFields, if_pos hn]
    simp only [Sem.run_bind, hpx, hpy, Result.andThen_ok, run_equalIn_int W d f.type k k0 p q hk]
    simp only [List.all_cons, hp, hq]
    cases hpq : (p == q)
    · simp
    · simp only [Bool.not_true, Bool.false_eq_true, if_false, Bool.true_and]
      exact ih
theorem eqAgg_flat {t : TypeId} {fs : Array Field} {xs ys : List Value} {b : Bool} (ht : P.underlying t = some (.struct fs)) (hf : flatB P t = true) (hv : ∀ f ∈ fs.toList, ∃ k p q, xs[f.offset]? = some (.int k p) ∧ ys[f.offset]? = some (.int k q))
    (hb : (fs.toList.all fun f => match xs[f.offset]?, ys[f.offset]? with | some (.int _ p), some (.int _ q) => p == q | _, _ => false) = b) : EqAgg P .eql t xs ys b ∧ EqAgg P .neq t xs ys (!b) := by
  unfold flatB at hf
  rw [ht] at hf
  simp only [Bool.and_eq_true, Bool.not_eq_true'] at hf
  obtain ⟨⟨hall, hst⟩, hgu⟩ := hf
  have hfo : P.fieldsOf t = fs := by unfold Program.fieldsOf; rw [ht]
  have h1 : ∀ f ∈ fs.toList, f.name ≠ "_" ∧ ∃ k, P.underlying f.type = some (.int k) := fun f hfm => by
    have := (Array.all_eq_true_iff_forall_mem.1 hall) f (by simpa using hfm)
    simp only [Bool.and_eq_true, bne_iff_ne] at this
    refine ⟨this.1, ?_⟩
    have h2 := this.2
    split at h2
    · rename_i k hk; exact ⟨k, hk⟩
    · cases h2
  have he : ∀ W, (Op.equalIn 10000 t (.agg xs.toArray) (.agg ys.toArray)).run P W = .ok b W := fun W => by
    rw [run_equalIn_agg W 9999 t _ _ (by rw [hfo]; exact ht) hst, hfo, eqFields_flat 9998 xs ys W fs.toList h1 hv, hb]
  constructor
  · intro x y W
    rw [Sem.run_bind, run_eqGuard_agg W .eql t x y _ _ hgu, Result.andThen_ok, run_eql_struct, he]; rfl
  · intro x y W
    rw [Sem.run_bind, run_eqGuard_agg W .neq t x y _ _ hgu, Result.andThen_ok, run_neq_struct, he]; rfl
/-- a struct of numbers is as it is -/
theorem eqAgg_refl {t : TypeId} {fs : Array Field} {xs : List Value} (ht : P.underlying t = some (.struct fs)) (hf : flatB P t = true) (hv : ∀ f ∈ fs.toList, ∃ k p, xs[f.offset]? = some (.int k p)) : EqAgg P .eql t xs xs true ∧ EqAgg P .neq t xs xs false := by
  refine eqAgg_flat (b := true) ht hf (fun f hfm => let ⟨k, p, h⟩ := hv f hfm; ⟨k, p, p, h, h⟩) ?_
  rw [List.all_eq_true]
  intro f hfm
  obtain ⟨k, p, h⟩ := hv f hfm
  simp [h]
end
end Sy
end Go.Proofs.YtohhjbfkgokopaaDoor
