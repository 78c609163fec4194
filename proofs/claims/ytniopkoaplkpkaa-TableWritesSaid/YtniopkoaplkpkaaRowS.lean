/- Lists of bytes, signs, numbers and rows, read in a greater memory. No condition. Registers and replies read in a greater memory. No condition. A truth handed back; the contracts of closures. Over any program. No condition. -/
import Derived.Test.YtniopkoaplkpkaaTab
import Derived.Test.YtniopkoaplkpkaaSyD
import Derived.Test.YtniopkoaplkpkaaFrame
import Derived.Test.YtniopkoaplkpkaaRegD
import Derived.Test.YtniopkoaplkpkaaFacts
namespace Go.Proofs.Ytniopkoaplkpkaa
open Go.RowKit
set_option linter.unusedVariables false
theorem Cells.sub {w w' : World} {a : Option Addr} {cs : List Value} (h : Cells w a cs) (hs : Sy.Sub w w') : Cells w' a cs := by
  rcases h with rfl | ⟨b, o, ha, hc⟩
  · exact .inl rfl
  · exact .inr ⟨b, o, ha, fun i hi => hs _ _ (hc i hi)⟩
theorem Bytes.sub {w w' : World} {a : Option Addr} {n : Nat} {l : List UInt8} (h : Bytes w a n l) (hs : Sy.Sub w w') : Bytes w' a n l := ⟨h.1, h.2.1, h.2.2.sub hs⟩
theorem rows_sub {α : Type} {R : World → List Value → α → Prop} {c : Nat} {w w' : World} {a : Option Addr} {l : List α} (hR : ∀ cs x, R w cs x → R w' cs x) (hs : Sy.Sub w w') (h : Rows R c w a l) : Rows R c w' a l := by
  refine ⟨h.1, ?_⟩
  rcases h.2 with h | ⟨b, o, ha, hc⟩
  · exact .inl h
  · refine .inr ⟨b, o, ha, fun i hi => ?_⟩
    obtain ⟨cs, h1, h2, h3⟩ := hc i hi
    exact ⟨cs, h1, fun j hj => hs _ _ (h2 j hj), hR _ _ h3⟩
/-- an element: its cells -/
theorem rows_get {α : Type} {R : World → List Value → α → Prop} {c : Nat} {m : World} {a : Option Addr} {l : List α} (h : Rows R c m a l) {k : Nat} (hk : k < l.length) :
    ∃ b o cs, a = some ⟨b, o, none⟩ ∧ cs.length = c ∧ Sy.At m b (o + k * c) cs ∧ R m cs l[k] := by
  obtain ⟨b, o, cs, ha, h1, h2, h3, _⟩ := Rows.at h k hk
  refine ⟨b, o, cs, ha, h1, fun j v hj => ?_, h3⟩
  obtain ⟨hj', rfl⟩ := List.getElem?_eq_some_iff.1 hj
  exact h2 j hj'
theorem Nums.sub {w w' : World} {a : Option Addr} {l : List Int} (h : Nums w a l) (hs : Sy.Sub w w') : Nums w' a l := rows_sub (fun _ _ h => h) hs h
/-- a number of a list -/
theorem nums_get {m : World} {a : Option Addr} {l : List Int} (h : Nums m a l) {k : Nat} (hk : k < l.length) : ∃ b o, a = some ⟨b, o, none⟩ ∧ m.cell? ⟨b, o + k * 1, none⟩ = some (.int .i64 l[k]) := by
  obtain ⟨b, o, ha, hc, _⟩ := Nums.at h k hk
  exact ⟨b, o, ha, by rw [Nat.mul_one]; exact hc⟩
end Go.Proofs.Ytniopkoaplkpkaa
namespace Go.Proofs.Ytniopkoaplkpkaa
open Go.RowKit
set_option linter.unusedVariables false
namespace Rg
open Sy (Sub)
theorem RepAt.sub {w w' : World} {r : RepD} {p : RepA} (h : RepAt w r p) (hs : Sub w w') : RepAt w' r p := ⟨h.1, h.2.1, h.2.2.1, h.2.2.2.1.sub hs, h.2.2.2.2⟩
theorem RepR.sub {w w' : World} {cs : List Value} {r : RepD} (h : RepR w cs r) (hs : Sub w w') : RepR w' cs r := let ⟨p, h1, h2⟩ := h; ⟨p, h1, h2.sub hs⟩
theorem DoneR.sub {w w' : World} {cs : List Value} {d : DoneD} (h : DoneR w cs d) (hs : Sub w w') : DoneR w' cs d := let ⟨p, h1, h2, h3, h4⟩ := h; ⟨p, h1, h2, h3, h4.sub hs⟩
theorem Dones.sub {w w' : World} {a : Option Addr} {l : List DoneD} (h : Dones w a l) (hs : Sub w w') : Dones w' a l := rows_sub (fun _ _ h => h.sub hs) hs h
theorem Cels.sub {w w' : World} {a : Option Addr} {l : List CellD} (h : Cels w a l) (hs : Sub w w') : Cels w' a l := rows_sub (w := w) (w' := w') (R := CellR) (fun _ _ h => h) hs h
theorem Marks.sub {w w' : World} {a : Option Addr} {l : List MarkD} (h : Marks w a l) (hs : Sub w w') : Marks w' a l := rows_sub (w := w) (w' := w') (R := MarkR) (fun _ _ h => h) hs h
theorem RegAt.sub {w w' : World} {r : RegD} {p : RegA} (h : RegAt w r p) (hs : Sub w w') : RegAt w' r p :=
  ⟨h.kind, h.inc, h.state, h.last, h.vars.sub hs, h.done.sub hs, h.out.sub hs, h.marks.sub hs, h.cv, h.cd, h.co, h.cm⟩
end Rg
end Go.Proofs.Ytniopkoaplkpkaa
namespace Go.Proofs.Ytniopkoaplkpkaa
open Go.RowKit
set_option linter.unusedVariables false
namespace Rg
open Sy (RetV RetM Sub)
theorem retBb {E : Sy.Ext} {W m0 m w : World} {bs : List Sy.Blk} (F : Sy.MemE E ⟨W, [], m0⟩ m bs w) {b b' : Bool} (h : b = b') : RetV W (.bool b) (.returned (.bool b')) w := by subst h; exact F.retV _
/-- the closure answers p -/
def ClosB {α : Type} (R : World → List Value → α → Prop) (w : World) (f : FuncId) (ks : List Value) (l : List α) (p : α → Bool) : Prop := ∀ w' m, Sub w m → Sub m w' → ∀ d ∈ l, ∀ cs, R m cs d → Calls Try.prog f ([] ++ [Value.agg cs.toArray] ++ ks).toArray w' (RetV w' (.bool (p d)))
def ClosN {α : Type} (R : World → List Value → α → Prop) (w : World) (f : FuncId) (ks : List Value) (l : List α) (p : α → Nat) : Prop := ∀ w' m, Sub w m → Sub m w' → ∀ d ∈ l, ∀ cs, R m cs d → Calls Try.prog f ([] ++ [Value.agg cs.toArray] ++ ks).toArray w' (RetV w' (.int .u64 (p d : Int)))
end Rg
end Go.Proofs.Ytniopkoaplkpkaa
