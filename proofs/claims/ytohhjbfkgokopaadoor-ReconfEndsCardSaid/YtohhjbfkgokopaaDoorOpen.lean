/- A slice that comes in, opened to its elements' cells. Over any program. No condition. -/
import Derived.Test.YtohhjbfkgokopaaDoorFrame
import Derived.Deep.Slices
import Derived.Deep.Fields
import Derived.ChangeSame
namespace Go.Proofs.YtohhjbfkgokopaaDoor
open Go.ChangeShapes Go.WideShapes Go.ChangeAt Go.RowKit Go.Deep
set_option linter.unusedVariables false
section
variable {H : Type} {enc : TypeId × Value → H} {P : Program} {w : World} {base : Nat} {spare : Nat → Bool} {held : Bool}

theorem slice_elems {t e : TypeId} {fuel : Nat} {cs : List Value} {x : DataW H × List MemPlace} (c : Nat) (hc0 : 0 < c) (hC : P.cellsOf e = c) (ht : P.underlying t = some (.slice e)) (h : DataW.trod enc P w base spare held fuel t cs = some x) :
    ∃ (a : Option Addr) (len cap : Nat), cs = [.slice a len cap] ∧ len ≤ cap ∧ cap ≤ maxLen ∧ (len = 0 ∨ ∃ b o, a = some ⟨b, o, none⟩) ∧
      ∀ b o, a = some ⟨b, o, none⟩ → ∀ i, i < len → ∃ (cs' : List Value) (n : Nat) (y : DataW H × List MemPlace), cs'.length = c ∧ (∀ j (hj : j < cs'.length), w.cell? ⟨b, o + i * c + j, none⟩ = some cs'[j]) ∧ DataW.trod enc P w base spare held n e cs' = some y := by
  rcases open_slice ht h with ⟨rfl, _⟩ | ⟨a, len, cap, m, n, D, Pl, rfl, hb, hl, hm, hmm, hx, hi⟩
  · exact ⟨none, 0, 0, rfl, Nat.le_refl _, Nat.zero_le _, .inl rfl, fun b o h => by cases h⟩
  · have hlm : len ≤ m := by rw [hmm]; split <;> omega
    refine ⟨some a, len, cap, rfl, hl, hm, ?_, ?_⟩
    · by_cases h0 : len = 0
      · exact .inl h0
      · right
        obtain ⟨cs', hcc, _⟩ := hi 0 (by omega)
        obtain ⟨_, hcl, hat⟩ := World.cells?_some hcc
        have h0 := hat 0 (by omega)
        obtain ⟨b, o, s⟩ := a
        have hv : cs'[0]? = some (cs'[0]'(by omega)) := List.getElem?_eq_getElem (by omega)
        rw [hv] at h0
        have hs := World.cell?_spot h0
        have : s = none := by simpa [Addr.add] using hs
        subst this
        exact ⟨b, o, rfl⟩
    · rintro b o hbo i hil
      simp at hbo
      subst hbo
      obtain ⟨cs', hcc, ht'⟩ := hi i (by omega)
      obtain ⟨_, hcl, hat⟩ := World.cells?_some hcc
      rw [hC] at hcl hat
      refine ⟨cs', n, _, hcl, fun j hj => ?_, ht'⟩
      have h1 := hat j (by omega)
      rw [addr_add, addr_add] at h1
      rw [h1]
      exact List.getElem?_eq_getElem hj

theorem int_cells {k : IntKind} {t : TypeId} {fuel : Nat} {cs : List Value} {x : DataW H × List MemPlace} (ht : P.underlying t = some (.int k)) (h : DataW.trod enc P w base spare held fuel t cs = some x) : ∃ n, cs = [.int k n] ∧ (Lit.int k n).wf = true := by
  obtain ⟨n, e, _, hw⟩ := DataW.trod_int ht h
  exact ⟨n, e, hw⟩
theorem bool_cells {t : TypeId} {fuel : Nat} {cs : List Value} {x : DataW H × List MemPlace} (ht : P.underlying t = some .bool) (h : DataW.trod enc P w base spare held fuel t cs = some x) : ∃ b, cs = [.bool b] := by
  cases fuel with
  | zero => simp [DataW.trod] at h
  | succ n =>
    unfold DataW.trod at h
    rw [ht] at h
    split at h <;> simp_all

/-- a struct's fields, each by its cells -/
theorem struct_cells {t : TypeId} {fs : Array Field} {fuel : Nat} {cs : List Value} {x : DataW H × List MemPlace} (hs : P.underlying t = some (.struct fs)) (h : DataW.trod enc P w base spare held fuel t cs = some x) :
    cs.length = P.cellsOf t ∧ ∃ n, ∀ (i : Nat) (f : Field), fs[i]? = some f → ∃ y, DataW.trod enc P w base spare held n f.type ((cs.drop f.offset).take (P.cellsOf f.type)) = some y := by
  obtain ⟨xs, n, _, _, hl, hlen, hg⟩ := DataW.trod_struct hs h
  refine ⟨hl, n, fun i f hf => ?_⟩
  have hi : i < fs.size := (Array.getElem?_eq_some_iff.1 hf).1
  exact ⟨xs[i]'(by omega), (hg i f hf).trans (List.getElem?_eq_getElem (by omega))⟩
/-- the same, a field's type, offset and size given -/
theorem struct_parts {t : TypeId} {fs : Array Field} {fuel : Nat} {cs : List Value} {x : DataW H × List MemPlace} (hs : P.underlying t = some (.struct fs)) (h : DataW.trod enc P w base spare held fuel t cs = some x) :
    cs.length = P.cellsOf t ∧ ∃ n, ∀ (i : Nat) (ft off c : Nat), (fs[i]?).map (fun f => (f.type, f.offset)) = some (ft, off) → P.cellsOf ft = c → ∃ y, DataW.trod enc P w base spare held n ft ((cs.drop off).take c) = some y := by
  obtain ⟨hl, n, hg⟩ := struct_cells hs h
  refine ⟨hl, n, fun i ft off c hf hc => ?_⟩
  cases hfi : fs[i]? with
  | none => rw [hfi] at hf; simp at hf
  | some f =>
    rw [hfi] at hf
    simp at hf
    obtain ⟨rfl, rfl⟩ := hf
    subst hc
    exact hg i f hfi
end
end Go.Proofs.YtohhjbfkgokopaaDoor
