/- Calls under a guard that stands, in a drawn region. Over any program. No condition. -/
import Derived.Test.YtdpmfjbhadapiaaSyD
namespace Go.Proofs.Ytdpmfjbhadapiaa
open Go.RowKit
set_option linter.unusedVariables false
set_option linter.unusedSimpArgs false
namespace Sy
section
variable {P : Program} {tab : List (Nat × Ty)} {fl : List Nat} {a : Act} {n : Nat} {ts : List (Nat × Value)} {w : World} {ty : TypeId} {pos : String} {af : Array Edge}
  {ops : Array Oper} {Q : Exit → Act → World → Prop} {rest : List Oper} {E : Ext} {c : Cx} {m : World} {bs bs' : List Blk} {X : List Nat} {r : Ot} {i : Nat}
theorem sx_holeG {d : Nat} {op : Op} {u : Value} {j e : Nat} {b : Bool} (hi' : nthO ops i = some ⟨some d, op, ty, pos, af, some (j, b)⟩) (T : Tm a n ts) (hj : (ops[j]?).bind (·.dst) = some e) (hv : getT ts e = some u) (hy : (yv u == some b) = true)
    (h : ∀ (K : Act → World → Prop), (∀ a' w', BelowX X w.heap.size w w' → wpUx P X ops Q r w'.heap.size w' a' w' → K a' w') → wpList P ops (AtK K Q) [⟨some d, op, ty, pos, af, none⟩] a w) : wpUx P X ops Q (.h i r) w.heap.size w a w := by
  have hi := nthO_spec hi'
  have hw := wanted_t (ops := ops) (o := ⟨some d, op, ty, pos, af, some (j, b)⟩) rfl T hj hv
  rw [hy] at hw
  unfold wpUx wpUy
  simp only [hi]
  rw [if_pos hw]
  have key := one_op (o := ⟨some d, op, ty, pos, af, none⟩) rfl (h (fun a' w' => ∃ X' B', w.heap.size ≤ B' ∧ (∀ k, k ∈ X' → k ∈ X ∨ w.heap.size ≤ k) ∧ BelowX X w.heap.size w w' ∧ (wpUy P ops Q r) X' B' w' a' w') fun a' w' h1 h2 => ⟨X, w'.heap.size, h1.size, fun _ h => .inl h, h1, h2⟩)
  exact key
/-- a call that hands back a known value -/
theorem sx_callVG [S : Seat P tab fl] {d : Nat} {f : FuncId} {args : List Operand} {ats : Array TypeId} {vs : List Value} {v u : Value} {j e : Nat} {b : Bool} (hi' : nthO ops i = some ⟨some d, .call { callee := .value (.func f), args := args.toArray, argTypes := ats }, ty, pos, af, some (j, b)⟩) (T : Tm a n ts) (F : MemE E c m bs w) (hfl : fl.contains f = true := by exact rfl) (ha : evs ts args = some vs := by exact rfl) (hd : Nat.blt d n = true := by exact rfl)
    (hj : (ops[j]?).bind (·.dst) = some e := by exact rfl) (hv : getT ts e = some u := by exact rfl) (hy : (yv u == some b) = true := by exact rfl)
    (hc : Calls P f vs.toArray w (RetV w v)) (h : ∀ a' w', Tm a' n ((d, v) :: ts) → MemE E c m bs w' → wpUx P X ops Q r w'.heap.size w' a' w') :
    wpUx P X ops Q (.h i r) w.heap.size w a w :=
  sx_holeG hi' T hj hv hy fun K hK => st_call (R := RetV w v) (us := []) (ks := []) T rfl hfl ha hd (by simpa using hc) fun e w' ⟨he, hb⟩ => ⟨v, he, fun a' T' => atK (hK _ _ (belowX hb) (h a' w' T' (F.below hb)))⟩
end
end Sy
end Go.Proofs.Ytdpmfjbhadapiaa
