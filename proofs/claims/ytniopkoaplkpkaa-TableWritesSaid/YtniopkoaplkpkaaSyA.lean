/- Words for a walk that names what it knows: slots by a list, blocks of the call's own by a list, and memory that stands still by a world of its own. Over any program. No condition. The operations' laws of the walk that names what it knows: for a plain region's list and for a drawn region's order. Over any program. No condition. Printed by a program (gensyb.py). -/
import Derived.Test.YtniopkoaplkpkaaBase
import Derived.Deep.LoopGhost
import Derived.Deep.MidRow
namespace Go.Proofs.Ytniopkoaplkpkaa
open Go.RowKit
set_option linter.unusedVariables false
namespace Sy

/-! ### slots -/
def getT : List (Nat × Value) → Nat → Option Value
  | [], _ => none
  | (k, v) :: r, i => bif Nat.beq k i then some v else getT r i
/-- what is known of the slots: the first entry of a slot wins -/
structure Tm (a : Act) (n : Nat) (ts : List (Nat × Value)) : Prop where
  dn : a.defers = []
  sz : a.tmps.size = n
  at_ : ∀ i v, getT ts i = some v → a.tmps[i]? = some v
def ev (ts : List (Nat × Value)) : Operand → Option Value
  | .tmp t => getT ts t
  | .const v => some v
  | .global g => some (.pointer (some ⟨g, 0, none⟩))
  | .func f => some (.func (.func f) #[] #[])
def evs (ts : List (Nat × Value)) : List Operand → Option (List Value)
  | [] => some []
  | x :: r => match ev ts x, evs ts r with
    | some v, some vs => some (v :: vs)
    | _, _ => none

section
variable {a : Act} {n : Nat} {ts : List (Nat × Value)}
theorem Tm.eval (T : Tm a n ts) {x : Operand} {v : Value} (h : ev ts x = some v) : a.eval x = v := by
  cases x with
  | tmp t =>
    have := T.at_ t v h
    simp [Act.eval, Array.getD_eq_getD_getElem?, this]
  | const c => exact Option.some.inj h
  | global g => exact Option.some.inj h
  | func f => exact Option.some.inj h
theorem Tm.evals (T : Tm a n ts) : ∀ {xs : List Operand} {vs : List Value}, evs ts xs = some vs → xs.map a.eval = vs
  | [], vs, h => by simp [evs] at h; simp [h]
  | x :: r, vs, h => by
    unfold evs at h
    split at h
    · rename_i v us h1 h2
      simp at h; subst h
      simp [T.eval h1, T.evals h2]
    · cases h
theorem Tm.put (T : Tm a n ts) {d : Nat} (hd : d < n) (v : Value) : Tm (a.put (some d) v) n ((d, v) :: ts) := by
  refine ⟨T.dn, by simp [Act.put, T.sz], fun i u h => ?_⟩
  unfold getT at h
  cases hb : Nat.beq d i
  · rw [hb] at h
    have hne : d ≠ i := fun e => by subst e; simp at hb
    simp only [Act.put, Array.getElem?_setIfInBounds, hne, if_false]
    exact T.at_ i u h
  · rw [hb] at h
    obtain rfl := Nat.eq_of_beq_eq_true hb
    simp at h; subst h
    have := T.sz
    simp [Act.put, this, hd]
theorem Tm.skip (T : Tm a n ts) (v : Value) : Tm (a.put none v) n ts := T
end
/-- fewer slots -/
inductive Part (ts : List (Nat × Value)) : List (Nat × Value) → Prop
  | nil : Part ts []
  | cons {i : Nat} {v : Value} {r : List (Nat × Value)} (h : getT ts i = some v) (hr : Part ts r) : Part ts ((i, v) :: r)
theorem Part.get {ts us : List (Nat × Value)} (h : Part ts us) (i : Nat) (v : Value) (hg : getT us i = some v) : getT ts i = some v := by
  induction h with
  | nil => cases hg
  | @cons j u r h1 _ ih =>
    unfold getT at hg
    cases hb : Nat.beq j i
    · rw [hb] at hg; exact ih hg
    · rw [hb] at hg
      obtain rfl := Nat.eq_of_beq_eq_true hb
      simp at hg; subst hg; exact h1
theorem Tm.part {a : Act} {n : Nat} {ts us : List (Nat × Value)} (T : Tm a n ts) (h : Part ts us) : Tm a n us := ⟨T.dn, T.sz, fun i v hg => T.at_ i v (h.get i v hg)⟩
def enum : Nat → List Value → List (Nat × Value)
  | _, [] => []
  | k, v :: r => (k, v) :: enum (k + 1) r
theorem enum_get : ∀ (vs : List Value) (k i : Nat) (v : Value), getT (enum k vs) i = some v → k ≤ i ∧ vs[i - k]? = some v
  | [], k, i, v, h => by cases h
  | u :: r, k, i, v, h => by
    unfold enum getT at h
    cases hb : Nat.beq k i
    · rw [hb] at h
      have hne : k ≠ i := fun e => by subst e; simp at hb
      obtain ⟨h1, h2⟩ := enum_get r (k + 1) i v h
      refine ⟨by omega, ?_⟩
      rw [show i - k = (i - (k + 1)) + 1 from by omega]
      simpa using h2
    · rw [hb] at h
      obtain rfl := Nat.eq_of_beq_eq_true hb
      simp at h; subst h; simp

/-! ### memory -/
/-- every cell of m stands in w, too -/
def Sub (m w : World) : Prop := ∀ p v, m.cell? p = some v → w.cell? p = some v
theorem Sub.refl (m : World) : Sub m m := fun _ _ h => h
theorem Sub.trans {a b c : World} (h : Sub a b) (k : Sub b c) : Sub a c := fun p v e => k p v (h p v e)
theorem sub_below {w w' : World} (h : Below w.heap.size w w') : Sub w w' := fun p v e => by
  rw [h.cell (World.block_lt_of_cell? w _ e)]; exact e

structure Blk where
  adr : Nat
  cs : List Value
  ty : TypeId

/-- what a call begins with: the world, the blocks that it may write, the memory that stands still -/
structure Cx where
  W : World
  X : List Nat
  m0 : World

/-- old blocks stand as they did, but for those of X -/
structure Kept (X : List Nat) (w w' : World) : Prop where
  os : w'.os = w.os
  tape : w'.tape = w.tape
  output : w'.output = w.output
  size : w.heap.size ≤ w'.heap.size
  block : ∀ k, k < w.heap.size → k ∉ X → w'.heap[k]? = w.heap[k]?
theorem Kept.refl (X : List Nat) (w : World) : Kept X w w := ⟨rfl, rfl, rfl, Nat.le_refl _, fun _ _ _ => rfl⟩
theorem Kept.below {w w' : World} (h : Kept [] w w') : Below w.heap.size w w' := ⟨h.os, h.tape, h.output, h.size, fun k hk => h.block k hk (by simp)⟩
theorem kept_below {w w' : World} (X : List Nat) (h : Below w.heap.size w w') : Kept X w w' := ⟨h.os, h.tape, h.output, h.size, fun k hk _ => h.block k hk⟩

/-- what else holds of the world: R, that hangs on the blocks S alone -/
structure Ext where
  S : Nat → Prop
  R : World → Prop
  stab : ∀ w w', (∀ k, S k → w'.heap[k]? = w.heap[k]?) → R w → R w'
  dom : ∀ w k, R w → S k → k < w.heap.size
def E0 : Ext := ⟨fun _ => False, fun _ => True, fun _ _ _ _ => trivial, fun _ _ _ h => h.elim⟩

structure MemE (E : Ext) (c : Cx) (m : World) (bs : List Blk) (w : World) : Prop where
  kept : Kept c.X c.W w
  sub0 : Sub c.m0 m
  sub : Sub m w
  fresh : ∀ p v, p.block < c.W.heap.size → m.cell? p = some v → c.m0.cell? p = some v
  own : ∀ b ∈ bs, (c.W.heap.size ≤ b.adr ∨ b.adr ∈ c.X) ∧ w.heap[b.adr]? = some (.cells b.cs.toArray b.ty (0, 0)) ∧ ∀ i s, m.cell? ⟨b.adr, i, s⟩ = none
  nodup : (bs.map Blk.adr).Nodup
  ext : E.R w
  loose : ∀ k, E.S k → (c.W.heap.size ≤ k ∨ k ∈ c.X) ∧ k ∉ bs.map Blk.adr ∧ ∀ i s, m.cell? ⟨k, i, s⟩ = none
abbrev Mem := MemE E0

theorem cell_none {m w : World} (h : Sub m w) {g : Nat} (hg : w.heap.size ≤ g) (i : Nat) (s : Option Nat) : m.cell? ⟨g, i, s⟩ = none := by
  cases hc : m.cell? ⟨g, i, s⟩ with
  | none => rfl
  | some v =>
    have := World.block_lt_of_cell? w _ (h _ _ hc)
    simp only at this
    omega

/-- a block of the list, and the others -/
inductive Take : List Blk → Nat → List Value → TypeId → List Blk → Prop
  | here {g : Nat} {cs : List Value} {t : TypeId} {r : List Blk} : Take (⟨g, cs, t⟩ :: r) g cs t r
  | there {b : Blk} {r r' : List Blk} {g : Nat} {cs : List Value} {t : TypeId} (h : Take r g cs t r') : Take (b :: r) g cs t (b :: r')
theorem Take.perm {bs r : List Blk} {g : Nat} {cs : List Value} {t : TypeId} (h : Take bs g cs t r) : bs.Perm (⟨g, cs, t⟩ :: r) := by
  induction h with
  | here => exact .refl _
  | there _ ih => exact (List.Perm.cons _ ih).trans (.swap _ _ _)

section
variable {E : Ext} {c : Cx} {m w : World} {bs r : List Blk} {g : Nat} {cs : List Value} {t : TypeId}
theorem MemE.perm (F : MemE E c m bs w) (h : bs.Perm r) : MemE E c m r w :=
  ⟨F.kept, F.sub0, F.sub, F.fresh, fun b hb => F.own b (h.symm.subset hb), (h.map Blk.adr).nodup_iff.1 F.nodup, F.ext, fun k hk => ⟨(F.loose k hk).1, fun hm => (F.loose k hk).2.1 ((h.map Blk.adr).symm.subset hm), (F.loose k hk).2.2⟩⟩
theorem MemE.get (F : MemE E c m bs w) (h : Take bs g cs t r) : w.heap[g]? = some (.cells cs.toArray t (0, 0)) := (F.own ⟨g, cs, t⟩ (h.perm.symm.subset (by simp))).2.1
theorem MemE.front (F : MemE E c m bs w) (h : Take bs g cs t r) : MemE E c m (⟨g, cs, t⟩ :: r) w := F.perm h.perm
theorem MemE.drop {b : Blk} (F : MemE E c m (b :: r) w) : MemE E c m r w :=
  ⟨F.kept, F.sub0, F.sub, F.fresh, fun x hx => F.own x (List.mem_cons_of_mem _ hx), (List.nodup_cons.1 F.nodup).2, F.ext, fun k hk => ⟨(F.loose k hk).1, fun hm => (F.loose k hk).2.1 (List.mem_cons_of_mem _ hm), (F.loose k hk).2.2⟩⟩
theorem MemE.size (F : MemE E c m bs w) : c.W.heap.size ≤ w.heap.size := F.kept.size
theorem MemE.lt (F : MemE E c m bs w) {b : Blk} (hb : b ∈ bs) : b.adr < w.heap.size := (Array.getElem?_eq_some_iff.1 (F.own b hb).2.1).1

/-- a world that has grown -/
theorem MemE.below (F : MemE E c m bs w) {w' : World} (hb : Below w.heap.size w w') : MemE E c m bs w' where
  kept := ⟨hb.os.trans F.kept.os, hb.tape.trans F.kept.tape, hb.output.trans F.kept.output, Nat.le_trans F.kept.size hb.size, fun k hk hx => (hb.block k (Nat.lt_of_lt_of_le hk F.kept.size)).trans (F.kept.block k hk hx)⟩
  sub0 := F.sub0
  sub := F.sub.trans (sub_below hb)
  fresh := F.fresh
  own b h := ⟨(F.own b h).1, by rw [hb.block _ (F.lt h)]; exact (F.own b h).2.1, (F.own b h).2.2⟩
  nodup := F.nodup
  ext := E.stab w w' (fun k hk => hb.block k (E.dom w k F.ext hk)) F.ext
  loose := F.loose

theorem MemE.alloc (F : MemE E c m bs w) (cs : List Value) (t : TypeId) : MemE E c m (⟨w.heap.size, cs, t⟩ :: bs) (w.alloc (.cells cs.toArray t (0, 0))) := by
  have F' := F.below (balloc w (.cells cs.toArray t (0, 0)))
  refine ⟨F'.kept, F'.sub0, F'.sub, F'.fresh, fun b hb => ?_, ?_, F'.ext, fun k hk => ⟨(F.loose k hk).1, fun hm => ?_, (F.loose k hk).2.2⟩⟩
  · rcases List.mem_cons.1 hb with rfl | hb
    · exact ⟨.inl F.size, heap_alloc_new _ _, fun i s => cell_none F.sub (Nat.le_refl _) i s⟩
    · exact F'.own b hb
  · rw [List.map_cons, List.nodup_cons]
    refine ⟨fun h => ?_, F.nodup⟩
    obtain ⟨b, hb, he⟩ := List.mem_map.1 h
    have := F.lt hb
    simp only at he
    omega
  · rcases List.mem_cons.1 hm with h | h
    · have := E.dom w k F.ext hk
      simp only at h
      omega
    · exact (F.loose k hk).2.1 h

theorem MemE.set (F : MemE E c m (⟨g, cs, t⟩ :: r) w) (cs' : List Value) {w' : World} (h1 : w'.heap[g]? = some (.cells cs'.toArray t (0, 0))) (h2 : ∀ k, k ≠ g → w'.heap[k]? = w.heap[k]?)
    (hos : w'.os = w.os) (ht : w'.tape = w.tape) (ho : w'.output = w.output) (hs : w'.heap.size = w.heap.size) : MemE E c m (⟨g, cs', t⟩ :: r) w' := by
  obtain ⟨hg, _, hm⟩ := F.own ⟨g, cs, t⟩ (by simp)
  refine ⟨⟨hos.trans F.kept.os, ht.trans F.kept.tape, ho.trans F.kept.output, by rw [hs]; exact F.kept.size, fun k hk hx => ?_⟩, F.sub0, fun p v e => ?_, F.fresh, fun b hb => ?_, F.nodup, E.stab w w' (fun k hk => h2 k (fun e => (F.loose k hk).2.1 (by simp [e]))) F.ext, F.loose⟩
  · rw [h2 k (fun e => by
      subst e
      rcases hg with hg | hg
      · simp only at hg; omega
      · exact hx hg)]
    exact F.kept.block k hk hx
  · have hp : p.block ≠ g := fun e => by
      have := hm p.off p.spot
      obtain ⟨pb, po, ps⟩ := p
      subst e
      rw [this] at e
      cases e
    rw [World.cell?_of_block (h2 _ hp)]
    exact F.sub p v e
  · rcases List.mem_cons.1 hb with rfl | hb
    · exact ⟨hg, h1, hm⟩
    · have hne : b.adr ≠ g := fun e => (List.nodup_cons.1 F.nodup).1 (List.mem_map.2 ⟨b, hb, e⟩)
      have h := F.own b (List.mem_cons_of_mem _ hb)
      exact ⟨h.1, by rw [h2 _ hne]; exact h.2.1, h.2.2⟩
end
end Sy
end Go.Proofs.Ytniopkoaplkpkaa
namespace Go.Proofs.Ytniopkoaplkpkaa
open Go.RowKit
set_option linter.unusedVariables false
set_option linter.unusedSimpArgs false
namespace Sy

/-- what the walk must know of a type -/
structure Ty where
  agg : Bool
  size : Nat
  bytes : Nat
  zero : List Value
  offs : List Nat
  szs : List Nat
  isSt : Bool
  elem : Nat × Nat
  kind : Option IntKind
  isSl : Bool
  isStr : Bool
def tyOf (P : Program) (t : TypeId) : Option Ty :=
  match P.underlying t, P.info? t with
  | some d, some i => match i.zero with
    | some z => some
      { agg := (match d with | .struct _ | .array _ _ => true | _ => false)
        size := i.size, bytes := i.bytes, zero := z.cells.toList
        offs := (match d with
          | .struct fs => if fs.all (fun f => match P.info? f.type with | some j => j.size != 0 | none => false) then (fs.map (·.offset)).toList else []
          | _ => [])
        szs := (match d with
          | .struct fs => (fs.map (fun f => match P.info? f.type with | some j => j.size | none => 0)).toList
          | _ => [])
        isSt := (match d with | .struct fs => fs.all (fun f => (P.info? f.type).isSome) | _ => false)
        elem := (match d with
          | .slice e => (match P.info? e with | some j => (e, j.size) | none => (0, 0))
          | _ => (0, 0))
        kind := (match d with | .int k => some k | _ => none)
        isSl := (match d with | .slice _ => true | _ => false)
        isStr := (match d with | .string => true | _ => false) }
    | none => none
  | _, _ => none
def getY : List (Nat × Ty) → Nat → Option Ty
  | [], _ => none
  | (k, y) :: r, i => bif Nat.beq k i then some y else getY r i
def entersB (P : Program) (f : FuncId) : Bool :=
  match P.funcs[f]? with
  | some fn => fn.body.isSome && !(fn.name == "runtime.NumGoroutine")
  | none => false
/-- what the walk must know of a program -/
class Seat (P : Program) (tab : outParam (List (Nat × Ty))) (fl : outParam (List Nat)) : Prop where
  ty : ∀ t y, getY tab t = some y → tyOf P t = some y
  fn : ∀ f, fl.contains f = true → entersB P f = true
  mixed : P.follows .mixedOrders = true
theorem tab_of {P : Program} : ∀ {tab : List (Nat × Ty)}, tab.map (fun p => tyOf P p.1) = tab.map (fun p => some p.2) → ∀ t y, getY tab t = some y → tyOf P t = some y
  | [], _, t, y, h => by cases h
  | (k, q) :: r, he, t, y, h => by
    simp only [List.map_cons, List.cons.injEq] at he
    unfold getY at h
    cases hb : Nat.beq k t
    · rw [hb] at h; exact tab_of he.2 t y h
    · rw [hb] at h
      obtain rfl := Nat.eq_of_beq_eq_true hb
      simp at h; subst h; exact he.1
theorem fns_of {P : Program} {fl : List Nat} (h : fl.all (entersB P) = true) : ∀ f, fl.contains f = true → entersB P f = true := fun f hf => by
  rw [List.all_eq_true] at h
  exact h f (by simpa using hf)

theorem tyOf_spec {P : Program} {t : TypeId} {y : Ty} (h : tyOf P t = some y) : ∃ d i z, P.underlying t = some d ∧ P.info? t = some i ∧ i.zero = some z ∧ y.agg = (match d with | .struct _ | .array _ _ => true | _ => false) ∧
    y.size = i.size ∧ y.bytes = i.bytes ∧ y.zero = z.cells.toList ∧ y.offs = (match d with
          | .struct fs => if fs.all (fun f => match P.info? f.type with | some j => j.size != 0 | none => false) then (fs.map (·.offset)).toList else []
          | _ => []) ∧ y.elem = (match d with
          | .slice e => (match P.info? e with | some j => (e, j.size) | none => (0, 0))
          | _ => (0, 0)) ∧ y.kind = (match d with | .int k => some k | _ => none) ∧ y.isSl = (match d with | .slice _ => true | _ => false) ∧ y.isStr = (match d with | .string => true | _ => false) ∧
    y.szs = (match d with
          | .struct fs => (fs.map (fun f => match P.info? f.type with | some j => j.size | none => 0)).toList
          | _ => []) ∧ y.isSt = (match d with | .struct fs => fs.all (fun f => (P.info? f.type).isSome) | _ => false) := by
  unfold tyOf at h
  split at h
  · rename_i d i hd hi
    split at h
    · rename_i z hz
      have h := Option.some.inj h
      subst h
      exact ⟨d, i, z, hd, hi, hz, rfl, rfl, rfl, rfl, rfl, rfl, rfl, rfl, rfl, rfl, rfl⟩
    · cases h
  · cases h

/-! ### cells -/
def cutK : List Value → Nat → Nat → (List Value → Prop) → Prop
  | _, 0, 0, K => K []
  | c :: r, 0, n + 1, K => cutK r 0 n fun vs => K (c :: vs)
  | _ :: r, o + 1, n, K => cutK r o n K
  | [], _, _, _ => False
theorem cutK_spec : ∀ {cs : List Value} {o n : Nat} {K : List Value → Prop}, cutK cs o n K → ∃ vs, vs.length = n ∧ (∀ j v, vs[j]? = some v → cs[o + j]? = some v) ∧ K vs
  | cs, 0, 0, K, h => ⟨[], rfl, by simp, by cases cs <;> exact h⟩
  | c :: r, 0, n + 1, K, h => by
    obtain ⟨vs, h1, h2, h3⟩ := cutK_spec (cs := r) (o := 0) (n := n) h
    refine ⟨c :: vs, by simp [h1], fun j v hj => ?_, h3⟩
    cases j with
    | zero => simpa using hj
    | succ j => simpa using h2 j v (by simpa using hj)
  | c :: r, o + 1, n, K, h => by
    have h' : cutK r o n K := by cases n <;> exact h
    obtain ⟨vs, h1, h2, h3⟩ := cutK_spec h'
    exact ⟨vs, h1, fun j v hj => by rw [show o + 1 + j = (o + j) + 1 from by omega]; simpa using h2 j v hj, h3⟩
  | [], o + 1, n, K, h => by cases n <;> exact h.elim
  | [], 0, n + 1, K, h => h.elim

def setK : List Value → Nat → List Value → (List Value → Prop) → Prop
  | cs, 0, [], K => K cs
  | _ :: r, 0, v :: vs, K => setK r 0 vs fun r' => K (v :: r')
  | c :: r, o + 1, vs, K => setK r o vs fun r' => K (c :: r')
  | [], _, _, _ => False
/-- a row with cells written over -/
def overL : List Value → Nat → List Value → List Value
  | cs, 0, [] => cs
  | _ :: r, 0, v :: vs => v :: overL r 0 vs
  | c :: r, o + 1, vs => c :: overL r o vs
  | [], _, _ => []
theorem setK_spec : ∀ {cs : List Value} {o : Nat} {vs : List Value} {K : List Value → Prop}, setK cs o vs K → K (overL cs o vs) ∧ o + vs.length ≤ cs.length
  | cs, 0, [], K, h => by cases cs <;> exact ⟨h, by simp⟩
  | c :: r, 0, v :: vs, K, h => by
    obtain ⟨h1, h2⟩ := setK_spec (cs := r) (o := 0) (vs := vs) h
    exact ⟨h1, by simp at h2 ⊢; omega⟩
  | c :: r, o + 1, vs, K, h => by
    have h' : setK r o vs fun r' => K (c :: r') := by cases vs <;> exact h
    obtain ⟨h1, h2⟩ := setK_spec h'
    refine ⟨?_, by simp; omega⟩
    cases vs <;> exact h1
  | [], o + 1, vs, K, h => by cases vs <;> exact h.elim
  | [], 0, v :: vs, K, h => h.elim
theorem overL_len : ∀ (cs : List Value) (o : Nat) (vs : List Value), o + vs.length ≤ cs.length → (overL cs o vs).length = cs.length
  | cs, 0, [], _ => by cases cs <;> rfl
  | c :: r, 0, v :: vs, h => by simp [overL, overL_len r 0 vs (by simp at h ⊢; omega)]
  | c :: r, o + 1, vs, h => by
    have : overL (c :: r) (o + 1) vs = c :: overL r o vs := by cases vs <;> rfl
    simp [this, overL_len r o vs (by simp at h; omega)]
  | [], o + 1, vs, h => by simp at h
  | [], 0, v :: vs, h => by simp at h
/-- the same by single cells -/
theorem setCells_over {b : Nat} {t : TypeId} : ∀ (vs : List Value) (o : Nat) (cs : List Value) (w : World), o + vs.length ≤ cs.length → w.heap[b]? = some (.cells cs.toArray t (0, 0)) →
    (w.setCells b o vs).heap[b]? = some (.cells (overL cs o vs).toArray t (0, 0))
  | [], o, cs, w, h, hg => by
    rw [World.setCells, hg]
    congr 3
    clear hg h
    induction o generalizing cs with
    | zero => cases cs <;> rfl
    | succ o ih =>
      cases cs with
      | nil => rfl
      | cons c r =>
        have := ih r
        simp only [overL, List.cons.injEq, true_and, List.toArray_inj, Array.mk.injEq] at this ⊢
        exact this
  | v :: r, o, cs, w, h, hg => by
    have hs := heap_setCell_same w b o cs.toArray t v hg
    have he : (cs.toArray.setIfInBounds o v) = (cs.set o v).toArray := by simp
    rw [he] at hs
    rw [World.setCells, setCells_over r (o + 1) (cs.set o v) _ (by simp at h ⊢; omega) hs]
    congr 3
    clear hs he hg
    induction o generalizing cs with
    | zero =>
      cases cs with
      | nil => simp at h
      | cons c k => cases r <;> rfl
    | succ o ih =>
      cases cs with
      | nil => simp at h
      | cons c k =>
        have := ih k (by simp at h ⊢; omega)
        cases r <;> simp only [overL, List.set_cons_succ, List.cons.injEq, true_and, List.toArray_inj, Array.mk.injEq] at this ⊢ <;> exact this
theorem setCells_heap_other {b : Nat} : ∀ (vs : List Value) (o : Nat) (w : World) (k : Nat), k ≠ b → (w.setCells b o vs).heap[k]? = w.heap[k]?
  | [], _, _, _, _ => rfl
  | v :: r, o, w, k, h => by
    rw [World.setCells, setCells_heap_other r (o + 1) _ k h, heap_setCell_other _ _ _ _ h]
theorem setCells_rest {b : Nat} : ∀ (vs : List Value) (o : Nat) (w : World), (w.setCells b o vs).os = w.os ∧ (w.setCells b o vs).tape = w.tape ∧ (w.setCells b o vs).output = w.output ∧ (w.setCells b o vs).heap.size = w.heap.size
  | [], _, _ => ⟨rfl, rfl, rfl, rfl⟩
  | v :: r, o, w => by
    obtain ⟨h1, h2, h3, h4⟩ := setCells_rest (b := b) r (o + 1) (w.setCell ⟨b, o, none⟩ v)
    exact ⟨h1, h2, h3, by rw [World.setCells, h4, World.size_setCell]⟩

theorem range_of {w : World} {g : Nat} {cs : List Value} {t : TypeId} (h : w.heap[g]? = some (.cells cs.toArray t (0, 0))) {o : Nat} {vs : List Value} (hv : ∀ j v, vs[j]? = some v → cs[o + j]? = some v) : w.rangeAt g o vs := fun j v hj => by
  simp [World.cell?, h, hv j v hj]
theorem there_of {w : World} {g : Nat} {cs : List Value} {t : TypeId} (h : w.heap[g]? = some (.cells cs.toArray t (0, 0))) {o n : Nat} (hn : o + n ≤ cs.length) : w.there g o n := fun j hj => by
  refine ⟨?_, ?_⟩
  · have : o + j < cs.length := by omega
    simp [World.cell?, h, this]
  · simp only [World.frozen?, h]
    simp

/-! ### what an operation yields -/
structure Runs (P : Program) (a : Act) (op : Op) (ty : TypeId) (w : World) (v : Value) : Prop where
  of ::
  out : ∀ d pos af gd, (execOp a.eval ⟨d, op, ty, pos, af, gd⟩).run P w = .ok (.value v) w

section
variable {P : Program} {tab : List (Nat × Ty)} {fl : List Nat} {a : Act} {n : Nat} {ts : List (Nat × Value)} {w : World} {ty : TypeId}

theorem run_isAgg_y {t : TypeId} {y : Ty} (h : tyOf P t = some y) (w : World) : (isAgg t).run P w = .ok y.agg w := by
  obtain ⟨d, i, z, hd, _, _, ha, _⟩ := tyOf_spec h
  unfold isAgg
  rw [Sem.run_bind, run_underlying hd w]
  rw [ha]
  cases d <;> simp
theorem run_sizeOf_y {t : TypeId} {y : Ty} (h : tyOf P t = some y) (w : World) : (sizeOf t).run P w = .ok y.size w := by
  obtain ⟨d, i, z, _, hi, _, _, hs, _⟩ := tyOf_spec h
  simp [sizeOf, typeInfo, hi, hs]
theorem info_y {t : TypeId} {y : Ty} (h : tyOf P t = some y) : (P.info? t).map (·.size) = some y.size := by
  obtain ⟨d, i, z, _, hi, _, _, hs, _⟩ := tyOf_spec h
  rw [hi, hs]; rfl
theorem run_zero_y {t : TypeId} {y : Ty} (h : tyOf P t = some y) (w : World) : ∃ z, (zeroValue t).run P w = .ok z w ∧ z.cells.toList = y.zero := by
  obtain ⟨d, i, z, _, hi, hz, _, _, _, he, _⟩ := tyOf_spec h
  exact ⟨z, by simp [zeroValue, typeInfo, hi, hz], he.symm⟩

theorem runs_move (T : Tm a n ts) {x : Operand} {v : Value} (hx : ev ts x = some v := by exact rfl) : Runs P a (.move x) ty w v := .of fun _ _ _ _ => by
  simp [execOp, T.eval hx]
theorem runs_assign (T : Tm a n ts) {x : Operand} {v : Value} (hx : ev ts x = some v := by exact rfl) : Runs P a (.assign x) ty w v := .of fun _ _ _ _ => by
  simp [execOp, T.eval hx]
theorem runs_pick_t (T : Tm a n ts) {c x y : Operand} {v : Value} (hc : ev ts c = some (.bool true) := by exact rfl) (hx : ev ts x = some v := by exact rfl) : Runs P a (.pick c x y) ty w v := .of fun _ _ _ _ => by
  simp [execOp, T.eval hx, T.eval hc, asBool]
theorem runs_pick_f (T : Tm a n ts) {c x y : Operand} {v : Value} (hc : ev ts c = some (.bool false) := by exact rfl) (hx : ev ts y = some v := by exact rfl) : Runs P a (.pick c x y) ty w v := .of fun _ _ _ _ => by
  simp [execOp, T.eval hx, T.eval hc, asBool]
theorem runs_pick (T : Tm a n ts) {c x y : Operand} {v : Value} {b b1 b2 : Bool} (hc : ev ts c = some (.bool b) := by exact rfl) (hx : ev ts x = some (.bool b1) := by exact rfl) (hy : ev ts y = some (.bool b2) := by exact rfl) : Runs P a (.pick c x y) ty w (.bool (bif b then b1 else b2)) := .of fun _ _ _ _ => by
  cases b <;> simp [execOp, T.eval hx, T.eval hy, T.eval hc, asBool]
theorem runs_extract (T : Tm a n ts) {x : Operand} {i : Nat} {vs : List Value} {v : Value} (hx : ev ts x = some (.tuple vs.toArray) := by exact rfl) (hi : vs[i]? = some v := by exact rfl) : Runs P a (.extract x i) ty w v := .of fun _ _ _ _ => by
  simp [execOp, T.eval hx, Instr.extract, hi]
theorem runs_nilCheck (T : Tm a n ts) {x : Operand} {g : Addr} (hx : ev ts x = some (.pointer (some g)) := by exact rfl) : Runs P a (.nilCheck x) ty w (.pointer (some g)) := .of fun _ _ _ _ => by
  simp [execOp, T.eval hx]
theorem runs_makeFunc (T : Tm a n ts) {f : Fn} {fs cs : List Operand} {us vs : List Value} (h1 : evs ts fs = some us := by exact rfl) (h2 : evs ts cs = some vs := by exact rfl) : Runs P a (.makeFunc f fs.toArray cs.toArray) ty w (.func f us.toArray vs.toArray) := .of fun _ _ _ _ => by
  simp [execOp, Instr.makeFunc, T.evals h1, T.evals h2]
theorem runs_fieldAddr [S : Seat P tab fl] (T : Tm a n ts) {s : TypeId} {x : Operand} {f g o d : Nat} {y : Ty} (hx : ev ts x = some (.pointer (some ⟨g, o, none⟩)) := by exact rfl) (hy : getY tab s = some y := by exact rfl) (hd : y.offs[f]? = some d := by exact rfl) :
    Runs P a (.fieldAddr s x f) ty w (.pointer (some ⟨g, o + d, none⟩)) := .of fun _ _ _ _ => by
  obtain ⟨de, i, z, hde, hi, hz, _, _, _, _, ho, _⟩ := tyOf_spec (S.ty _ _ hy)
  rw [ho] at hd
  cases de with
  | struct fs =>
    simp only at hd
    split at hd
    · rename_i hall
      rw [Array.getElem?_toList, Array.getElem?_map] at hd
      cases hf : fs[f]? with
      | none => rw [hf] at hd; simp at hd
      | some fd =>
        rw [hf] at hd
        simp at hd
        subst hd
        have h1 := (Array.all_eq_true_iff_forall_mem.1 hall) fd (Array.mem_of_getElem? hf)
        cases hj : P.info? fd.type with
        | none => rw [hj] at h1; simp at h1
        | some j =>
          rw [hj] at h1
          simp at h1
          have hadd : (⟨g, o, none⟩ : Addr).add fd.offset = ⟨g, o + fd.offset, none⟩ := addr_add _ _ _
          simp [execOp, Instr.fieldAt, run_underlying hde, hf, T.eval hx, Instr.sureAddr, fieldPlace, sizeOf, typeInfo, hj, h1, hadd]
    · simp at hd
  | _ => simp at hd
theorem runs_indexAddr [S : Seat P tab fl] (T : Tm a n ts) {s : TypeId} {x ix : Operand} {b o l c j : Nat} {k : IntKind} {i : Int} {y : Ty} (hx : ev ts x = some (.slice (some ⟨b, o, none⟩) l c) := by exact rfl) (hi : ev ts ix = some (.int k i) := by exact rfl) (hij : i = (j : Nat) := by first | exact rfl | assumption) (hj : j < l := by first | assumption | decide)
    (hy : getY tab s = some y := by exact rfl) {e1 e2 : Nat} (he : y.elem = (e1, e2) := by exact rfl) (he0 : Nat.blt 0 e2 = true := by exact rfl) : Runs P a (.indexAddr s x ix) ty w (.pointer (some ⟨b, o + j * e2, none⟩)) := .of fun _ _ _ _ => by
  subst hij
  obtain ⟨de, ii, z, hde, hinfo, hz, _, _, _, _, _, hel, _, _⟩ := tyOf_spec (S.ty _ _ hy)
  rw [he] at hel
  cases de with
  | slice el =>
    simp only at hel
    cases hq : P.info? el with
    | none => rw [hq] at hel; simp at hel; rw [hel.2] at he0; simp at he0
    | some q =>
      rw [hq] at hel
      simp only [Prod.mk.injEq] at hel
      obtain ⟨_, hel⟩ := hel
      have hadd : (⟨b, o, none⟩ : Addr).add (j * q.size) = ⟨b, o + j * q.size, none⟩ := addr_add _ _ _
      rw [hel]
      have h0 : (0 : Int) ≤ (j : Int) ∧ (j : Int) < (l : Int) := by omega
      simp [execOp, Instr.indexAt, asIntOf, T.eval hx, T.eval hi, run_underlying hde, h0, hj, sizeOf, typeInfo, hq, hadd]
  | _ => simp at hel; rw [hel.2] at he0; simp at he0
theorem runs_not (T : Tm a n ts) {x : Operand} {t : TypeId} {b : Bool} (hx : ev ts x = some (.bool b) := by exact rfl) : Runs P a (.unOp .not t x) ty w (.bool (!b)) := .of fun _ _ _ _ => by
  simp [execOp, T.eval hx, Op.unary]
theorem runs_eql (T : Tm a n ts) {x y : Operand} {t t2 : TypeId} {k : IntKind} {p q : Int} {b : Bool} (hx : ev ts x = some (.int k p) := by exact rfl) (hy : ev ts y = some (.int k q) := by exact rfl) (hb : (p == q) = b := by first | assumption | exact (rfl : _ = true) | exact (rfl : _ = false) | exact rfl) : Runs P a (.binOp .eql t x y t2) ty w (.bool b) := .of fun _ _ _ _ => by
  subst hb
  have hg : (eqGuard .eql t x y (.int k p) (.int k q)).run P w = .ok () w := rfl
  simp [execOp, T.eval hx, T.eval hy, hg, binOp, Op.intCmp]
theorem runs_neq (T : Tm a n ts) {x y : Operand} {t t2 : TypeId} {k : IntKind} {p q : Int} {b : Bool} (hx : ev ts x = some (.int k p) := by exact rfl) (hy : ev ts y = some (.int k q) := by exact rfl) (hb : (p == q) = b := by first | assumption | exact (rfl : _ = true) | exact (rfl : _ = false) | exact rfl) : Runs P a (.binOp .neq t x y t2) ty w (.bool (!b)) := .of fun _ _ _ _ => by
  subst hb
  have hg : (eqGuard .neq t x y (.int k p) (.int k q)).run P w = .ok () w := rfl
  simp [execOp, T.eval hx, T.eval hy, hg, binOp, Op.intCmp, bne]
theorem runs_lss (T : Tm a n ts) {x y : Operand} {t t2 : TypeId} {k : IntKind} {p q : Int} {b : Bool} (hx : ev ts x = some (.int k p) := by exact rfl) (hy : ev ts y = some (.int k q) := by exact rfl) (hb : (decide (p < q)) = b := by first | assumption | exact (rfl : _ = true) | exact (rfl : _ = false) | exact rfl) : Runs P a (.binOp .lss t x y t2) ty w (.bool b) := .of fun _ _ _ _ => by
  subst hb
  have hg : (eqGuard .lss t x y (.int k p) (.int k q)).run P w = .ok () w := rfl
  simp [execOp, T.eval hx, T.eval hy, hg, binOp, Op.intCmp]
theorem runs_leq (T : Tm a n ts) {x y : Operand} {t t2 : TypeId} {k : IntKind} {p q : Int} {b : Bool} (hx : ev ts x = some (.int k p) := by exact rfl) (hy : ev ts y = some (.int k q) := by exact rfl) (hb : (decide (p ≤ q)) = b := by first | assumption | exact (rfl : _ = true) | exact (rfl : _ = false) | exact rfl) : Runs P a (.binOp .leq t x y t2) ty w (.bool b) := .of fun _ _ _ _ => by
  subst hb
  have hg : (eqGuard .leq t x y (.int k p) (.int k q)).run P w = .ok () w := rfl
  simp [execOp, T.eval hx, T.eval hy, hg, binOp, Op.intCmp]
theorem runs_gtr (T : Tm a n ts) {x y : Operand} {t t2 : TypeId} {k : IntKind} {p q : Int} {b : Bool} (hx : ev ts x = some (.int k p) := by exact rfl) (hy : ev ts y = some (.int k q) := by exact rfl) (hb : (decide (p > q)) = b := by first | assumption | exact (rfl : _ = true) | exact (rfl : _ = false) | exact rfl) : Runs P a (.binOp .gtr t x y t2) ty w (.bool b) := .of fun _ _ _ _ => by
  subst hb
  have hg : (eqGuard .gtr t x y (.int k p) (.int k q)).run P w = .ok () w := rfl
  simp [execOp, T.eval hx, T.eval hy, hg, binOp, Op.intCmp]
theorem runs_geq (T : Tm a n ts) {x y : Operand} {t t2 : TypeId} {k : IntKind} {p q : Int} {b : Bool} (hx : ev ts x = some (.int k p) := by exact rfl) (hy : ev ts y = some (.int k q) := by exact rfl) (hb : (decide (p ≥ q)) = b := by first | assumption | exact (rfl : _ = true) | exact (rfl : _ = false) | exact rfl) : Runs P a (.binOp .geq t x y t2) ty w (.bool b) := .of fun _ _ _ _ => by
  subst hb
  have hg : (eqGuard .geq t x y (.int k p) (.int k q)).run P w = .ok () w := rfl
  simp [execOp, T.eval hx, T.eval hy, hg, binOp, Op.intCmp]
theorem runs_add (T : Tm a n ts) {x y : Operand} {t t2 : TypeId} {k : IntKind} {p q r : Int} (hx : ev ts x = some (.int k p) := by exact rfl) (hy : ev ts y = some (.int k q) := by exact rfl) (hr : k.wrap (p + q) = r := by first | assumption | exact rfl) : Runs P a (.binOp .add t x y t2) ty w (.int k r) := .of fun _ _ _ _ => by
  subst hr
  have hg : (eqGuard .add t x y (.int k p) (.int k q)).run P w = .ok () w := rfl
  simp [execOp, T.eval hx, T.eval hy, hg, binOp, Op.intArith]
theorem runs_sub (T : Tm a n ts) {x y : Operand} {t t2 : TypeId} {k : IntKind} {p q r : Int} (hx : ev ts x = some (.int k p) := by exact rfl) (hy : ev ts y = some (.int k q) := by exact rfl) (hr : k.wrap (p - q) = r := by first | assumption | exact rfl) : Runs P a (.binOp .sub t x y t2) ty w (.int k r) := .of fun _ _ _ _ => by
  subst hr
  have hg : (eqGuard .sub t x y (.int k p) (.int k q)).run P w = .ok () w := rfl
  simp [execOp, T.eval hx, T.eval hy, hg, binOp, Op.intArith]
theorem runs_mul (T : Tm a n ts) {x y : Operand} {t t2 : TypeId} {k : IntKind} {p q r : Int} (hx : ev ts x = some (.int k p) := by exact rfl) (hy : ev ts y = some (.int k q) := by exact rfl) (hr : k.wrap (p * q) = r := by first | assumption | exact rfl) : Runs P a (.binOp .mul t x y t2) ty w (.int k r) := .of fun _ _ _ _ => by
  subst hr
  have hg : (eqGuard .mul t x y (.int k p) (.int k q)).run P w = .ok () w := rfl
  simp [execOp, T.eval hx, T.eval hy, hg, binOp, Op.intArith]
theorem runs_and (T : Tm a n ts) {x y : Operand} {t t2 : TypeId} {k : IntKind} {p q r : Int} (hx : ev ts x = some (.int k p) := by exact rfl) (hy : ev ts y = some (.int k q) := by exact rfl) (hr : k.wrap (BitVec.ofInt k.bits p &&& BitVec.ofInt k.bits q).toNat = r := by first | assumption | exact rfl) : Runs P a (.binOp .and t x y t2) ty w (.int k r) := .of fun _ _ _ _ => by
  subst hr
  have hg : (eqGuard .and t x y (.int k p) (.int k q)).run P w = .ok () w := rfl
  simp [execOp, T.eval hx, T.eval hy, hg, binOp, Op.intBits]
theorem runs_or (T : Tm a n ts) {x y : Operand} {t t2 : TypeId} {k : IntKind} {p q r : Int} (hx : ev ts x = some (.int k p) := by exact rfl) (hy : ev ts y = some (.int k q) := by exact rfl) (hr : k.wrap (BitVec.ofInt k.bits p ||| BitVec.ofInt k.bits q).toNat = r := by first | assumption | exact rfl) : Runs P a (.binOp .or t x y t2) ty w (.int k r) := .of fun _ _ _ _ => by
  subst hr
  have hg : (eqGuard .or t x y (.int k p) (.int k q)).run P w = .ok () w := rfl
  simp [execOp, T.eval hx, T.eval hy, hg, binOp, Op.intBits]
theorem runs_xor (T : Tm a n ts) {x y : Operand} {t t2 : TypeId} {k : IntKind} {p q r : Int} (hx : ev ts x = some (.int k p) := by exact rfl) (hy : ev ts y = some (.int k q) := by exact rfl) (hr : k.wrap (BitVec.ofInt k.bits p ^^^ BitVec.ofInt k.bits q).toNat = r := by first | assumption | exact rfl) : Runs P a (.binOp .xor t x y t2) ty w (.int k r) := .of fun _ _ _ _ => by
  subst hr
  have hg : (eqGuard .xor t x y (.int k p) (.int k q)).run P w = .ok () w := rfl
  simp [execOp, T.eval hx, T.eval hy, hg, binOp, Op.intBits]
theorem runs_andNot (T : Tm a n ts) {x y : Operand} {t t2 : TypeId} {k : IntKind} {p q r : Int} (hx : ev ts x = some (.int k p) := by exact rfl) (hy : ev ts y = some (.int k q) := by exact rfl) (hr : k.wrap (BitVec.ofInt k.bits p &&& ~~~BitVec.ofInt k.bits q).toNat = r := by first | assumption | exact rfl) : Runs P a (.binOp .andNot t x y t2) ty w (.int k r) := .of fun _ _ _ _ => by
  subst hr
  have hg : (eqGuard .andNot t x y (.int k p) (.int k q)).run P w = .ok () w := rfl
  simp [execOp, T.eval hx, T.eval hy, hg, binOp, Op.intBits]
theorem runs_quo (T : Tm a n ts) {x y : Operand} {t t2 : TypeId} {k : IntKind} {p q r : Int} (hx : ev ts x = some (.int k p) := by exact rfl) (hy : ev ts y = some (.int k q) := by exact rfl) (hq : q ≠ 0 := by first | assumption | decide) (hr : k.wrap (p.tdiv q) = r := by first | assumption | exact rfl) : Runs P a (.binOp .quo t x y t2) ty w (.int k r) := .of fun _ _ _ _ => by
  subst hr
  have hg : (eqGuard .quo t x y (.int k p) (.int k q)).run P w = .ok () w := rfl
  simp [execOp, T.eval hx, T.eval hy, hg, binOp, Op.intDiv, hq]
theorem runs_rem (T : Tm a n ts) {x y : Operand} {t t2 : TypeId} {k : IntKind} {p q r : Int} (hx : ev ts x = some (.int k p) := by exact rfl) (hy : ev ts y = some (.int k q) := by exact rfl) (hq : q ≠ 0 := by first | assumption | decide) (hr : p.tmod q = r := by first | assumption | exact rfl) : Runs P a (.binOp .rem t x y t2) ty w (.int k r) := .of fun _ _ _ _ => by
  subst hr
  have hg : (eqGuard .rem t x y (.int k p) (.int k q)).run P w = .ok () w := rfl
  simp [execOp, T.eval hx, T.eval hy, hg, binOp, Op.intDiv, hq]
theorem runs_shl (T : Tm a n ts) {x y : Operand} {t t2 : TypeId} {k k2 : IntKind} {p q r : Int} (hx : ev ts x = some (.int k p) := by exact rfl) (hy : ev ts y = some (.int k2 q) := by exact rfl) (hq : decide (q < 0) = false := by first | assumption | exact rfl) (hr : k.wrap (p * 2 ^ (min q.toNat k.bits)) = r := by first | assumption | exact rfl) : Runs P a (.binOp .shl t x y t2) ty w (.int k r) := .of fun _ _ _ _ => by
  subst hr
  have hq' : ¬ q < 0 := by simpa using hq
  have hg : (eqGuard .shl t x y (.int k p) (.int k2 q)).run P w = .ok () w := rfl
  simp [execOp, T.eval hx, T.eval hy, hg, binOp, Op.shift, hq']
theorem runs_shr (T : Tm a n ts) {x y : Operand} {t t2 : TypeId} {k k2 : IntKind} {p q r : Int} (hx : ev ts x = some (.int k p) := by exact rfl) (hy : ev ts y = some (.int k2 q) := by exact rfl) (hq : decide (q < 0) = false := by first | assumption | exact rfl) (hr : p.fdiv (2 ^ (min q.toNat k.bits)) = r := by first | assumption | exact rfl) : Runs P a (.binOp .shr t x y t2) ty w (.int k r) := .of fun _ _ _ _ => by
  subst hr
  have hq' : ¬ q < 0 := by simpa using hq
  have hg : (eqGuard .shr t x y (.int k p) (.int k2 q)).run P w = .ok () w := rfl
  simp [execOp, T.eval hx, T.eval hy, hg, binOp, Op.shift, hq']
theorem runs_conv [S : Seat P tab fl] (T : Tm a n ts) {x : Operand} {s t : TypeId} {k k2 : IntKind} {p r : Int} {y ys : Ty} (hx : ev ts x = some (.int k p) := by exact rfl) (hy : getY tab t = some y := by exact rfl) (hys : getY tab s = some ys := by exact rfl) (hk : y.kind = some k2 := by exact rfl) (hr : k2.wrap p = r := by first | assumption | exact rfl) : Runs P a (.convert s t x) ty w (.int k2 r) := .of fun _ _ _ _ => by
  subst hr
  obtain ⟨de, ii, z, hde, hinfo, hz, _, _, _, _, _, _, hkk, _⟩ := tyOf_spec (S.ty _ _ hy)
  rw [hk] at hkk
  cases de with
  | int k3 =>
    simp only [Option.some.injEq] at hkk
    subst hkk
    obtain ⟨ds, _, _, hs, _⟩ := tyOf_spec (S.ty _ _ hys)
    simp [execOp, T.eval hx, convert, run_underlying hde, run_underlying hs, Conv.intToInt]
  | _ => simp at hkk
theorem runs_len (T : Tm a n ts) {x : Operand} {t : TypeId} {ad : Option Addr} {l c : Nat} (hx : ev ts x = some (.slice ad l c) := by exact rfl) [S : Seat P tab fl] {y : Ty} (hy : getY tab t = some y := by exact rfl) (hz : y.isSl = true := by exact rfl) : Runs P a (.call { callee := .builtin .len, args := #[x], argTypes := #[t] }) ty w (.int .i64 l) := .of fun _ _ _ _ => by
  obtain ⟨de, ii, z, hde, hinfo, _, _, _, _, _, _, _, _, hsl, _, _⟩ := tyOf_spec (S.ty _ _ hy)
  rw [hz] at hsl
  cases de with
  | slice el => simp [execOp, resolve, invoke, builtin, Builtin.len_, T.eval hx, run_underlying hde, goInt]
  | _ => simp at hsl
theorem runs_lenStr (T : Tm a n ts) {x : Operand} {t : TypeId} {b : ByteArray} (hx : ev ts x = some (.string b) := by exact rfl) [S : Seat P tab fl] {y : Ty} (hy : getY tab t = some y := by exact rfl) (hz : y.isStr = true := by exact rfl) : Runs P a (.call { callee := .builtin .len, args := #[x], argTypes := #[t] }) ty w (.int .i64 b.size) := .of fun _ _ _ _ => by
  obtain ⟨de, ii, z, hde, hinfo, _, _, _, _, _, _, _, _, _, hsl, _⟩ := tyOf_spec (S.ty _ _ hy)
  rw [hz] at hsl
  cases de with
  | string => simp [execOp, resolve, invoke, builtin, Builtin.len_, T.eval hx, run_underlying hde, goInt]
  | _ => simp at hsl
theorem runs_loadOne [S : Seat P tab fl] (T : Tm a n ts) {t : TypeId} {x : Operand} {g o : Nat} {y : Ty} {v : Value} (hx : ev ts x = some (.pointer (some ⟨g, o, none⟩))) (hy : getY tab t = some y) (ha : y.agg = false) (hc : w.cell? ⟨g, o, none⟩ = some v) : Runs P a (.load t x) ty w v := .of fun _ _ _ _ => by
  have hagg := run_isAgg_y (S.ty _ _ hy) w
  rw [ha] at hagg
  simp [execOp, T.eval hx, Instr.loadAt, Instr.sureAddr, loadVar, hagg, load, Sem.run, hc]
theorem runs_loadAgg [S : Seat P tab fl] (T : Tm a n ts) {t : TypeId} {x : Operand} {g o : Nat} {y : Ty} {vs : List Value} (hx : ev ts x = some (.pointer (some ⟨g, o, none⟩))) (hy : getY tab t = some y) (ha : y.agg = true) (hl : vs.length = y.size) (hc : w.rangeAt g o vs) : Runs P a (.load t x) ty w (.agg vs.toArray) := .of fun _ _ _ _ => by
  have hagg := run_isAgg_y (S.ty _ _ hy) w
  have hsz := run_sizeOf_y (S.ty _ _ hy) w
  rw [ha] at hagg
  rw [← hl] at hsz
  have hld : (loadCells ⟨g, o, none⟩ vs.length).run P w = .ok vs.toArray w := run_loadCells_list (P := P) w ⟨g, o, none⟩ vs (fun j v hv => by rw [addr_add]; exact hc j v hv)
  simp [execOp, T.eval hx, Instr.loadAt, Instr.sureAddr, loadVar, hagg, hsz, hld]
end
end Sy
end Go.Proofs.Ytniopkoaplkpkaa
