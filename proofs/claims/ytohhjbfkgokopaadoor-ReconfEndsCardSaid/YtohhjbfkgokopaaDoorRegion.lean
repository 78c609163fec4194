/- A region that draws its order and whose operations read, and call what makes memory and hands back plain values: one walk in the text's order. Over any program. No condition. -/
import Derived.Test.YtohhjbfkgokopaaDoorBase
import Derived.BigQuiet
import Derived.Deep.QuietTactic
namespace Go.Proofs.YtohhjbfkgokopaaDoor
open Go.RowKit

/-- 's[:k]' -/
theorem run_slice_to {P : Program} {t e : TypeId} {i : TypeInfo} (ht : P.underlying t = some (.slice e)) (hi : P.info? e = some i) (a : Option Addr) (n cap k : Nat) (h : k ≤ cap) (W : World) :
    (Instr.slice t (.slice a n cap) none (some (.int .i64 (k : Int))) none).run P W = .ok (.slice a k cap) W := by
  have h1 : (0 : Int) ≤ (k : Int) := by omega
  have e0 : Option.map (fun x : Addr => x.add 0) a = a := by cases a <;> simp [Addr.add]
  simp [Instr.slice, run_underlying ht, Instr.sliceBounds, Instr.sliceBound, asIntOf, sizeOf, typeInfo, hi, h, e0]

/-- a world that has grown, all below B as it was -/
structure ExtW (B : Nat) (w : World) where
  W : World
  h : Below B w W

instance extNonempty (B : Nat) (w : World) : Nonempty (ExtW B w) := ⟨⟨w, Below.refl _ _⟩⟩

theorem ext_call {P : Program} {f : FuncId} {args : Array Value} {B : Nat} {w : World} {v : Value} (n : ExtW B w) (hB : B ≤ w.heap.size)
    (h : Calls P f args n.W fun e w' => e = .returned v ∧ Below n.W.heap.size n.W w') : Calls P f args n.W fun e w'' => e = .returned v ∧ ∃ m : ExtW B w, w'' = m.W :=
  h.mono fun _ w' ⟨he, hb⟩ => ⟨he, ⟨w', n.h.trans (hb.mono (Nat.le_trans hB n.h.size))⟩, rfl⟩

theorem ext_call_same {P : Program} {f : FuncId} {args : Array Value} {B : Nat} {w : World} {v : Value} (n : ExtW B w)
    (h : Calls P f args n.W fun e w' => e = .returned v ∧ n.W = w') : Calls P f args n.W fun e w'' => e = .returned v ∧ ∃ m : ExtW B w, w'' = m.W :=
  h.mono fun _ _ ⟨he, hb⟩ => ⟨he, n, hb.symm⟩

theorem wp_region_ext {P : Program} {id : Nat} {Q : Exit → Act → World → Prop} {a : Act} {w : World} {l : List Oper} (B : Nat) (w0 : World) (hw : Below B w0 w) (hm : P.follows .mixedOrders = true) (hB : Region.lexB .any l.toArray = true)
    (h : wpQuiet P l.toArray (fun w' => ∃ n : ExtW B w0, w' = n.W) (fun a' => ∀ w', (∃ n : ExtW B w0, w' = n.W) → Q .normal a' w') l a) : (Code.region id l.toArray true).wp P Q a w :=
  wp_region_quiet (C := fun w' => ∃ n : ExtW B w0, w' = n.W) hm hB ⟨⟨{ w with drawn := w.drawn + 1 }, ⟨hw.os, hw.tape, hw.output, hw.size, hw.block⟩⟩, rfl⟩ (by simpa using h)
end Go.Proofs.YtohhjbfkgokopaaDoor
