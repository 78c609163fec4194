/- The frame of a law: its arguments opened, and read again behind the call. Over any program. No condition. A slice that comes in, opened to its elements' cells. Over any program. No condition. Slices of structs in memory, read as lists: each element by its cells. Over any program. No condition. Cells and rows of blocks that were made, behind calls. Over any program. No condition. -/
import Derived.Test.YtniopkoaplkpkaaBase
import Derived.ProofKit
import Derived.OpenShut
import Derived.ShutString
import Derived.ChangeOld
import Derived.Deep.Slices
import Derived.Deep.Fields
import Derived.ChangeSame
import Derived.Laws.Tables
namespace Go.Proofs.Ytniopkoaplkpkaa
open Go.ChangeShapes Go.WideShapes Go.ChangeAt Go.RowKit
open Go.ChangeMaps (open_string shut_string)
set_option linter.unusedVariables false

theorem trodAll_below {H : Type} {enc : TypeId × Value → H} {P : Program} {W W' : World} (hl : laidOutB P = true) (hb : Below W.heap.size W W') :
    ∀ (ts : List TypeId) (vs : List Value) (ds : List (DataW H)) (ps : List MemPlace), (ts.all fun t => P.readableRec t && decide (t < P.types.size)) = true →
      DataW.TrodAll enc P W 0 (fun _ => true) true ts vs ds ps → (∀ x ∈ ps, x.block < W.heap.size) →
      DataW.TrodAll enc P W' 0 (fun b => decide (b < W.heap.size)) true ts vs ds ps
  | [], vs, ds, ps, _, h, _ => by
    cases vs <;> cases ds <;> exact h
  | t :: ts, vs, ds, ps, hr, h, hlt => by
    obtain ⟨v, vs', d, ds', p, q, rfl, rfl, rfl, h0, r0⟩ := trodAll_cons h
    simp only [List.all_cons, Bool.and_eq_true, decide_eq_true_eq] at hr
    exact ⟨p, q, Below.trod hl hr.1.1 hr.1.2 h0 hb (fun x hx => hlt x (List.mem_append_left _ hx)),
      trodAll_below hl hb ts vs' ds' q hr.2 r0 (fun x hx => hlt x (List.mem_append_right _ hx)), rfl⟩

theorem trodAll_lt {H : Type} {enc : TypeId × Value → H} {P : Program} {W : World} :
    ∀ (ts : List TypeId) (vs : List Value) (ds : List (DataW H)) (ps : List MemPlace),
      DataW.TrodAll enc P W 0 (fun _ => true) true ts vs ds ps → ∀ x ∈ ps, x.block < W.heap.size
  | [], vs, ds, ps, h => by
    cases vs <;> cases ds <;> simp [DataW.TrodAll] at h
    subst h; simp
  | t :: ts, vs, ds, ps, h => by
    obtain ⟨v, vs', d, ds', p, q, rfl, rfl, rfl, ⟨m, h0⟩, r0⟩ := trodAll_cons h
    intro x hx
    rcases List.mem_append.1 hx with hx | hx
    · exact DataW.trod_lt m _ _ _ h0 x hx
    · exact trodAll_lt ts vs' ds' q r0 x hx

theorem u8_of (n : Int) (h : (Lit.int .u8 n).wf = true) : ((UInt8.ofNat n.toNat).toNat : Int) = n := by
  have := bounds_u8 h
  have e : (UInt8.ofNat n.toNat).toNat = n.toNat % 256 := UInt8.toNat_ofNat'
  rw [e]; omega

theorem bytes_of {H : Type} {enc : TypeId × Value → H} {P : Program} {W : World} {t e : TypeId} {v : Value} {d : DataW H} {ps : List MemPlace} {spare : Nat → Bool} {base b2 : Nat} {held : Bool} (ht : P.underlying t = some (.slice e)) (he : P.underlying e = some (.int .u8)) (hc : P.cellsOf e = 1)
    (hval : Value.okWide P W .any base t v) (h : DataW.Trod enc P W b2 spare held t v d ps) :
    ∃ (a : Option Addr) (cap : Nat) (l : List UInt8), v = .slice a l.length cap ∧ l.length ≤ cap ∧ cap ≤ maxLen ∧ Bytes W a l.length l := by
  obtain ⟨a, len, cap, rfl⟩ := okWide_slice ht hval
  obtain ⟨fuel, hf⟩ := h
  rcases open_ints ht he hc hf with ⟨hcs, _⟩ | ⟨x, l, c, zs, hcs, _, hl, hm, hz, _, hcell, hwz⟩
  · simp [Value.cells] at hcs
    obtain ⟨rfl, rfl, rfl⟩ := hcs
    exact ⟨none, 0, [], rfl, Nat.le_refl _, Nat.zero_le _, Bytes.nil _ _⟩
  · simp [Value.cells] at hcs
    obtain ⟨rfl, rfl, rfl⟩ := hcs
    have hzl : len ≤ zs.length := by rw [hz]; split <;> omega
    refine ⟨some x, cap, (zs.take len).map fun n => UInt8.ofNat n.toNat, ?_, ?_, hm, rfl, ?_, ?_⟩
    · simp; omega
    · simp; omega
    · simp; omega
    · by_cases h0 : len = 0
      · left; simp [h0]
      · have hc0 := hcell 0 (by omega)
        obtain ⟨b, o, s⟩ := x
        have hs : s = none := by simpa [Addr.add] using World.cell?_spot hc0
        subst hs
        refine .inr ⟨b, o, rfl, fun i hi => ?_⟩
        have hi' : i < len := by simp at hi; omega
        have hci := hcell i (by omega)
        rw [addr_add] at hci
        rw [hci]
        have hw : (Lit.int .u8 zs[i]).wf = true := hwz _ (List.getElem_mem _)
        have hb := bounds_u8 hw
        simp [bv]
        rw [List.getElem?_eq_getElem (by omega)]
        simp
        omega
end Go.Proofs.Ytniopkoaplkpkaa
namespace Go.Proofs.Ytniopkoaplkpkaa
open Go.ChangeShapes Go.WideShapes Go.ChangeAt Go.RowKit Go.Deep
set_option linter.unusedVariables false
section
variable {H : Type} {enc : TypeId × Value → H} {P : Program} {w : World} {base : Nat} {spare : Nat → Bool} {held : Bool}

theorem slice_elems {t e : TypeId} {fuel : Nat} {cs : List Value} {x : DataW H × List MemPlace} (c : Nat) (hc0 : 0 < c) (hC : P.cellsOf e = c) (ht : P.underlying t = some (.slice e)) (h : DataW.trod enc P w base spare held fuel t cs = some x) :
    ∃ (a : Option Addr) (len cap : Nat), cs = [.slice a len cap] ∧ len ≤ cap ∧ cap ≤ maxLen ∧ (len = 0 ∨ ∃ b o, a = some ⟨b, o, none⟩) ∧
      ∀ b o, a = some ⟨b, o, none⟩ → ∀ i, i < len → ∃ (cs' : List Value) (n : Nat) (y : DataW H × List MemPlace), cs'.length = c ∧ (∀ j (hj : j < cs'.length), w.cell? ⟨b, o + i * c + j, none⟩ = some cs'[j]) ∧ DataW.trod enc P w base spare held n e cs' = some y := by
  rcases open_slice ht h with ⟨rfl, _⟩ | ⟨a, len, cap, m, n, D, Pl, rfl, hb, hl, hm, hmm, hx, hi⟩
  · exact ⟨none, 0, 0, rfl, Nat.le_refl _, Nat.zero_le _, .inl rfl, fun b o h => by cases h⟩
  · have hlm : len ≤ m := by rw [hmm]; split <;> omega
    refine ⟨some a, len, cap, rfl, hl, hm, ?_, ?_⟩
    · by_cases h0 : len = 0
      · exact .inl h0
      · right
        obtain ⟨cs', hcc, _⟩ := hi 0 (by omega)
        obtain ⟨_, hcl, hat⟩ := World.cells?_some hcc
        have h0 := hat 0 (by omega)
        obtain ⟨b, o, s⟩ := a
        have hv : cs'[0]? = some (cs'[0]'(by omega)) := List.getElem?_eq_getElem (by omega)
        rw [hv] at h0
        have hs := World.cell?_spot h0
        have : s = none := by simpa [Addr.add] using hs
        subst this
        exact ⟨b, o, rfl⟩
    · rintro b o hbo i hil
      simp at hbo
      subst hbo
      obtain ⟨cs', hcc, ht'⟩ := hi i (by omega)
      obtain ⟨_, hcl, hat⟩ := World.cells?_some hcc
      rw [hC] at hcl hat
      refine ⟨cs', n, _, hcl, fun j hj => ?_, ht'⟩
      have h1 := hat j (by omega)
      rw [addr_add, addr_add] at h1
      rw [h1]
      exact List.getElem?_eq_getElem hj

theorem int_cells {k : IntKind} {t : TypeId} {fuel : Nat} {cs : List Value} {x : DataW H × List MemPlace} (ht : P.underlying t = some (.int k)) (h : DataW.trod enc P w base spare held fuel t cs = some x) : ∃ n, cs = [.int k n] ∧ (Lit.int k n).wf = true := by
  obtain ⟨n, e, _, hw⟩ := DataW.trod_int ht h
  exact ⟨n, e, hw⟩
theorem bool_cells {t : TypeId} {fuel : Nat} {cs : List Value} {x : DataW H × List MemPlace} (ht : P.underlying t = some .bool) (h : DataW.trod enc P w base spare held fuel t cs = some x) : ∃ b, cs = [.bool b] := by
  cases fuel with
  | zero => simp [DataW.trod] at h
  | succ n =>
    unfold DataW.trod at h
    rw [ht] at h
    split at h <;> simp_all

/-- a struct's fields, each by its cells -/
theorem struct_cells {t : TypeId} {fs : Array Field} {fuel : Nat} {cs : List Value} {x : DataW H × List MemPlace} (hs : P.underlying t = some (.struct fs)) (h : DataW.trod enc P w base spare held fuel t cs = some x) :
    cs.length = P.cellsOf t ∧ ∃ n, ∀ (i : Nat) (f : Field), fs[i]? = some f → ∃ y, DataW.trod enc P w base spare held n f.type ((cs.drop f.offset).take (P.cellsOf f.type)) = some y := by
  obtain ⟨xs, n, _, _, hl, hlen, hg⟩ := DataW.trod_struct hs h
  refine ⟨hl, n, fun i f hf => ?_⟩
  have hi : i < fs.size := (Array.getElem?_eq_some_iff.1 hf).1
  exact ⟨xs[i]'(by omega), (hg i f hf).trans (List.getElem?_eq_getElem (by omega))⟩
/-- the same, a field's type, offset and size given -/
theorem struct_parts {t : TypeId} {fs : Array Field} {fuel : Nat} {cs : List Value} {x : DataW H × List MemPlace} (hs : P.underlying t = some (.struct fs)) (h : DataW.trod enc P w base spare held fuel t cs = some x) :
    cs.length = P.cellsOf t ∧ ∃ n, ∀ (i : Nat) (ft off c : Nat), (fs[i]?).map (fun f => (f.type, f.offset)) = some (ft, off) → P.cellsOf ft = c → ∃ y, DataW.trod enc P w base spare held n ft ((cs.drop off).take c) = some y := by
  obtain ⟨hl, n, hg⟩ := struct_cells hs h
  refine ⟨hl, n, fun i ft off c hf hc => ?_⟩
  cases hfi : fs[i]? with
  | none => rw [hfi] at hf; simp at hf
  | some f =>
    rw [hfi] at hf
    simp at hf
    obtain ⟨rfl, rfl⟩ := hf
    subst hc
    exact hg i f hfi
end
end Go.Proofs.Ytniopkoaplkpkaa
namespace Go.Proofs.Ytniopkoaplkpkaa
open Go.ChangeShapes Go.WideShapes Go.ChangeAt Go.RowKit Go.Deep
set_option linter.unusedVariables false

/-- what hands back a truth, and leaves all that was there -/
def RetBo (w : World) (b : Bool) (e : Ending) (w' : World) : Prop := e = .returned (.bool b) ∧ Below w.heap.size w w'
theorem retBo {w w' : World} {b b' : Bool} (h : b = b') (hb : Below w.heap.size w w') : RetBo w b' (.returned (.bool b)) w' := by subst h; exact ⟨rfl, hb⟩
theorem cell_new {wr w1 : World} {cs : Array Value} {T : TypeId} (b1 : Below (wr.alloc (.cells cs T)).heap.size (wr.alloc (.cells cs T)) w1) (i : Nat) : w1.cell? ⟨wr.heap.size, i, none⟩ = cs[i]? := by
  rw [b1.cell (p := ⟨wr.heap.size, i, none⟩) (by simp)]
  simp only [World.cell?, heap_alloc_new]
  rfl
theorem beq_cases (a c : Int) : (a = c ∧ (a == c) = true) ∨ (a ≠ c ∧ (a == c) = false) := by
  by_cases h : a = c
  · exact .inl ⟨h, by simp [h]⟩
  · exact .inr ⟨h, by simp [h]⟩
theorem below_dr (w : World) (n : Nat) : Below w.heap.size w (w.drewN n) := ⟨rfl, rfl, rfl, Nat.le_refl _, fun _ _ => rfl⟩
theorem cell_up {w w' : World} (hb : Below w.heap.size w w') {b o : Nat} {v : Value} (h : w.cell? ⟨b, o, none⟩ = some v) : w'.cell? ⟨b, o, none⟩ = some v := by
  rw [hb.cell (p := ⟨b, o, none⟩) (World.block_lt_of_cell? w _ h)]; exact h
theorem beq_refl_b (b : Bool) : (b == b) = true := by cases b <;> rfl
theorem beq_refl_i (b : Int) : (b == b) = true := by simp

/-- a slice reads as a list: c cells an element, each element as R says -/
def Rows {α : Type} (R : World → List Value → α → Prop) (c : Nat) (w : World) (a : Option Addr) (l : List α) : Prop :=
  l.length ≤ maxLen ∧ (l = [] ∨ ∃ b o, a = some ⟨b, o, none⟩ ∧ ∀ i (h : i < l.length), ∃ cs : List Value, cs.length = c ∧ (∀ j (hj : j < cs.length), w.cell? ⟨b, o + i * c + j, none⟩ = some cs[j]) ∧ R w cs l[i])

theorem Rows.mono {α : Type} {R : World → List Value → α → Prop} {c : Nat} {w w' : World} {a : Option Addr} {l : List α} (hR : ∀ cs x, R w cs x → R w' cs x) (hb : Below w.heap.size w w') (h : Rows R c w a l) : Rows R c w' a l := by
  refine ⟨h.1, ?_⟩
  rcases h.2 with h | ⟨b, o, ha, hc⟩
  · exact .inl h
  · refine .inr ⟨b, o, ha, fun i hi => ?_⟩
    obtain ⟨cs, h1, h2, h3⟩ := hc i hi
    refine ⟨cs, h1, fun j hj => ?_, hR _ _ h3⟩
    have h4 := h2 j hj
    rw [hb.cell (p := ⟨b, o + i * c + j, none⟩) (World.block_lt_of_cell? w _ h4)]; exact h4

theorem Rows.at {α : Type} {R : World → List Value → α → Prop} {c : Nat} {w : World} {a : Option Addr} {l : List α} (h : Rows R c w a l) (k : Nat) (hk : k < l.length) :
    ∃ b o cs, a = some ⟨b, o, none⟩ ∧ cs.length = c ∧ (∀ j (hj : j < cs.length), w.cell? ⟨b, o + k * c + j, none⟩ = some cs[j]) ∧ R w cs l[k] ∧ (0 < c → b < w.heap.size) := by
  rcases h.2 with h | ⟨b, o, ha, hc⟩
  · subst h; simp at hk
  · obtain ⟨cs, h1, h2, h3⟩ := hc k hk
    exact ⟨b, o, cs, ha, h1, h2, h3, fun h0 => World.block_lt_of_cell? w _ (h2 0 (by omega))⟩
theorem Rows.nil {α : Type} (R : World → List Value → α → Prop) (c : Nat) (w : World) (a : Option Addr) : Rows R c w a [] := ⟨Nat.zero_le _, .inl rfl⟩

/-- numbers in memory -/
def Nums (w : World) (a : Option Addr) (l : List Int) : Prop := Rows (fun _ cs (x : Int) => cs = [.int .i64 x] ∧ -9223372036854775808 ≤ x ∧ x ≤ 9223372036854775807) 1 w a l
theorem Nums.mono {w w' : World} {a : Option Addr} {l : List Int} (h : Nums w a l) (hb : Below w.heap.size w w') : Nums w' a l := Rows.mono (fun _ _ h => h) hb h
theorem Nums.at {w : World} {a : Option Addr} {l : List Int} (h : Nums w a l) (k : Nat) (hk : k < l.length) :
    ∃ b o, a = some ⟨b, o, none⟩ ∧ w.cell? ⟨b, o + k, none⟩ = some (.int .i64 l[k]) ∧ b < w.heap.size ∧ -9223372036854775808 ≤ l[k] ∧ l[k] ≤ 9223372036854775807 := by
  obtain ⟨b, o, cs, ha, h1, h2, ⟨rfl, h3⟩, h4⟩ := Rows.at h k hk
  have := h2 0 (by simp)
  exact ⟨b, o, ha, by simpa using this, h4 (by omega), h3⟩

section
variable {H : Type} {enc : TypeId × Value → H} {P : Program} {W : World} {spare : Nat → Bool} {b2 : Nat} {held : Bool}
theorem choose_list' {α : Type} (n : Nat) (p : Nat → α → Prop) (h : ∀ i, i < n → ∃ x, p i x) : ∃ l : List α, l.length = n ∧ ∀ i (hi : i < l.length), p i l[i] := by
  induction n with
  | zero => exact ⟨[], rfl, by simp⟩
  | succ n ih =>
    obtain ⟨l, h1, h2⟩ := ih (fun i hi => h i (by omega))
    obtain ⟨x, hx⟩ := h n (by omega)
    refine ⟨l ++ [x], by simp [h1], fun i hi => ?_⟩
    by_cases hl : i < l.length
    · rw [List.getElem_append_left hl]; exact h2 i hl
    · have : i = l.length := by simp at hi; omega
      subst this
      simp only [List.getElem_concat_length]
      rw [h1]; exact hx

/-- a slice that comes in, opened by what opens its elements -/
theorem rows_open {α : Type} {R : World → List Value → α → Prop} {t e : TypeId} (c : Nat) (hc0 : 0 < c) (hC : P.cellsOf e = c) (ht : P.underlying t = some (.slice e))
    (hR : ∀ (fuel : Nat) (cs : List Value) (x : DataW H × List MemPlace), DataW.trod enc P W b2 spare held fuel e cs = some x → ∃ y : α, R W cs y)
    (fuel : Nat) (cs : List Value) (x : DataW H × List MemPlace) (h : DataW.trod enc P W b2 spare held fuel t cs = some x) :
    ∃ (a : Option Addr) (cap : Nat) (l : List α), cs = [.slice a l.length cap] ∧ l.length ≤ cap ∧ cap ≤ maxLen ∧ Rows R c W a l := by
  obtain ⟨a, len, cap, rfl, h1, h2, h3, h4⟩ := slice_elems c hc0 hC ht h
  rcases h3 with rfl | ⟨b, o, rfl⟩
  · exact ⟨a, cap, [], rfl, h1, h2, Rows.nil _ _ _ _⟩
  · obtain ⟨l, hl, hp⟩ := choose_list' len (fun i (y : α) => ∃ cs : List Value, cs.length = c ∧ (∀ j (hj : j < cs.length), W.cell? ⟨b, o + i * c + j, none⟩ = some cs[j]) ∧ R W cs y) (fun i hi => by
      obtain ⟨cs', n, y, hcl, hcc, ht'⟩ := h4 b o rfl i hi
      obtain ⟨z, hz⟩ := hR n cs' y ht'
      exact ⟨z, cs', hcl, hcc, hz⟩)
    subst hl
    exact ⟨_, cap, l, rfl, h1, h2, by omega, .inr ⟨b, o, rfl, hp⟩⟩
end
end Go.Proofs.Ytniopkoaplkpkaa
namespace Go.Proofs.Ytniopkoaplkpkaa
open Go.RowKit
set_option linter.unusedVariables false
namespace Rg
theorem block_up {w w' : World} (hb : Below w.heap.size w w') {g : Nat} {o : Obj} (h : w.heap[g]? = some o) : w'.heap[g]? = some o := by
  rw [hb.block g (Array.getElem?_eq_some_iff.1 h).1]; exact h
theorem below_row {w wA : World} (hB : Below w.heap.size w wA) {g : Nat} (hg : w.heap.size ≤ g) (cs : Array Value) : Below w.heap.size w (wA.setRow g cs) :=
  hB.trans ⟨rfl, rfl, rfl, by simp, fun k hk => setRow_other wA g k _ (by omega)⟩
theorem own_cell {w w1 : World} {cs : Array Value} {t : TypeId} {o2 : Obj} (b1 : Below ((w.alloc (.cells cs t)).alloc o2).heap.size ((w.alloc (.cells cs t)).alloc o2) w1) (i : Nat) {v : Value} (hv : cs[i]? = some v) : w1.cell? ⟨w.heap.size, i, none⟩ = some v :=
  cell_up b1 (by rw [World.cell?_alloc_past _ _ _ (by simp), World.cell?_alloc_at _ _ _ _ rfl]; exact hv)
theorem own_cell2 {w w1 : World} {o1 : Obj} {cs : Array Value} {t : TypeId} (b1 : Below ((w.alloc o1).alloc (.cells cs t)).heap.size ((w.alloc o1).alloc (.cells cs t)) w1) (i : Nat) {v : Value} (hv : cs[i]? = some v) : w1.cell? ⟨w.heap.size + 1, i, none⟩ = some v :=
  cell_up b1 (by rw [World.cell?_alloc_at _ _ _ _ (by simp)]; exact hv)
end Rg
end Go.Proofs.Ytniopkoaplkpkaa
