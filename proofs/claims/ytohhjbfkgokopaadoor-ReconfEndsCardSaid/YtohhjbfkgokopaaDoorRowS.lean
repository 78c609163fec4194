/- Lists of bytes, signs, numbers and rows, read in a greater memory. No condition. -/
import Derived.Test.YtohhjbfkgokopaaDoorTab
import Derived.Test.YtohhjbfkgokopaaDoorSyD
import Derived.Test.YtohhjbfkgokopaaDoorLists
namespace Go.Proofs.YtohhjbfkgokopaaDoor
open Go.RowKit
set_option linter.unusedVariables false
theorem Cells.sub {w w' : World} {a : Option Addr} {cs : List Value} (h : Cells w a cs) (hs : Sy.Sub w w') : Cells w' a cs := by
  rcases h with rfl | ⟨b, o, ha, hc⟩
  · exact .inl rfl
  · exact .inr ⟨b, o, ha, fun i hi => hs _ _ (hc i hi)⟩
theorem Bytes.sub {w w' : World} {a : Option Addr} {n : Nat} {l : List UInt8} (h : Bytes w a n l) (hs : Sy.Sub w w') : Bytes w' a n l := ⟨h.1, h.2.1, h.2.2.sub hs⟩
theorem rows_sub {α : Type} {R : World → List Value → α → Prop} {c : Nat} {w w' : World} {a : Option Addr} {l : List α} (hR : ∀ cs x, R w cs x → R w' cs x) (hs : Sy.Sub w w') (h : Rows R c w a l) : Rows R c w' a l := by
  refine ⟨h.1, ?_⟩
  rcases h.2 with h | ⟨b, o, ha, hc⟩
  · exact .inl h
  · refine .inr ⟨b, o, ha, fun i hi => ?_⟩
    obtain ⟨cs, h1, h2, h3⟩ := hc i hi
    exact ⟨cs, h1, fun j hj => hs _ _ (h2 j hj), hR _ _ h3⟩
/-- an element: its cells -/
theorem rows_get {α : Type} {R : World → List Value → α → Prop} {c : Nat} {m : World} {a : Option Addr} {l : List α} (h : Rows R c m a l) {k : Nat} (hk : k < l.length) :
    ∃ b o cs, a = some ⟨b, o, none⟩ ∧ cs.length = c ∧ Sy.At m b (o + k * c) cs ∧ R m cs l[k] := by
  obtain ⟨b, o, cs, ha, h1, h2, h3, _⟩ := Rows.at h k hk
  refine ⟨b, o, cs, ha, h1, fun j v hj => ?_, h3⟩
  obtain ⟨hj', rfl⟩ := List.getElem?_eq_some_iff.1 hj
  exact h2 j hj'
theorem Nums.sub {w w' : World} {a : Option Addr} {l : List Int} (h : Nums w a l) (hs : Sy.Sub w w') : Nums w' a l := rows_sub (fun _ _ h => h) hs h
/-- a number of a list -/
theorem nums_get {m : World} {a : Option Addr} {l : List Int} (h : Nums m a l) {k : Nat} (hk : k < l.length) : ∃ b o, a = some ⟨b, o, none⟩ ∧ m.cell? ⟨b, o + k * 1, none⟩ = some (.int .i64 l[k]) := by
  obtain ⟨b, o, ha, hc, _⟩ := Nums.at h k hk
  exact ⟨b, o, ha, by rw [Nat.mul_one]; exact hc⟩
end Go.Proofs.YtohhjbfkgokopaaDoor
