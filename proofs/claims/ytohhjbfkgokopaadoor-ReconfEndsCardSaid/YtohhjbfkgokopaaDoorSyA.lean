/- Words for a walk that names what it knows: slots by a list, blocks of the call's own by a list, and memory that stands still by a world of its own. Over any program. No condition. -/
import Derived.Test.YtohhjbfkgokopaaDoorUp
import Derived.Deep.LoopGhost
namespace Go.Proofs.YtohhjbfkgokopaaDoor
open Go.RowKit
set_option linter.unusedVariables false
namespace Sy

/-! ### slots -/
def getT : List (Nat × Value) → Nat → Option Value
  | [], _ => none
  | (k, v) :: r, i => bif Nat.beq k i then some v else getT r i
/-- what is known of the slots: the first entry of a slot wins -/
structure Tm (a : Act) (n : Nat) (ts : List (Nat × Value)) : Prop where
  dn : a.defers = []
  sz : a.tmps.size = n
  at_ : ∀ i v, getT ts i = some v → a.tmps[i]? = some v
def ev (ts : List (Nat × Value)) : Operand → Option Value
  | .tmp t => getT ts t
  | .const v => some v
  | .global g => some (.pointer (some ⟨g, 0, none⟩))
  | .func f => some (.func (.func f) #[] #[])
def evs (ts : List (Nat × Value)) : List Operand → Option (List Value)
  | [] => some []
  | x :: r => match ev ts x, evs ts r with
    | some v, some vs => some (v :: vs)
    | _, _ => none

section
variable {a : Act} {n : Nat} {ts : List (Nat × Value)}
theorem Tm.eval (T : Tm a n ts) {x : Operand} {v : Value} (h : ev ts x = some v) : a.eval x = v := by
  cases x with
  | tmp t =>
    have := T.at_ t v h
    simp [Act.eval, Array.getD_eq_getD_getElem?, this]
  | const c => exact Option.some.inj h
  | global g => exact Option.some.inj h
  | func f => exact Option.some.inj h
theorem Tm.evals (T : Tm a n ts) : ∀ {xs : List Operand} {vs : List Value}, evs ts xs = some vs → xs.map a.eval = vs
  | [], vs, h => by simp [evs] at h; simp [h]
  | x :: r, vs, h => by
    unfold evs at h
    split at h
    · rename_i v us h1 h2
      simp at h; subst h
      simp [T.eval h1, T.evals h2]
    · cases h
theorem Tm.put (T : Tm a n ts) {d : Nat} (hd : d < n) (v : Value) : Tm (a.put (some d) v) n ((d, v) :: ts) := by
  refine ⟨T.dn, by simp [Act.put, T.sz], fun i u h => ?_⟩
  unfold getT at h
  cases hb : Nat.beq d i
  · rw [hb] at h
    have hne : d ≠ i := fun e => by subst e; simp at hb
    simp only [Act.put, Array.getElem?_setIfInBounds, hne, if_false]
    exact T.at_ i u h
  · rw [hb] at h
    obtain rfl := Nat.eq_of_beq_eq_true hb
    simp at h; subst h
    have := T.sz
    simp [Act.put, this, hd]
theorem Tm.skip (T : Tm a n ts) (v : Value) : Tm (a.put none v) n ts := T
end
/-- fewer slots -/
inductive Part (ts : List (Nat × Value)) : List (Nat × Value) → Prop
  | nil : Part ts []
  | cons {i : Nat} {v : Value} {r : List (Nat × Value)} (h : getT ts i = some v) (hr : Part ts r) : Part ts ((i, v) :: r)
theorem Part.get {ts us : List (Nat × Value)} (h : Part ts us) (i : Nat) (v : Value) (hg : getT us i = some v) : getT ts i = some v := by
  induction h with
  | nil => cases hg
  | @cons j u r h1 _ ih =>
    unfold getT at hg
    cases hb : Nat.beq j i
    · rw [hb] at hg; exact ih hg
    · rw [hb] at hg
      obtain rfl := Nat.eq_of_beq_eq_true hb
      simp at hg; subst hg; exact h1
theorem Tm.part {a : Act} {n : Nat} {ts us : List (Nat × Value)} (T : Tm a n ts) (h : Part ts us) : Tm a n us := ⟨T.dn, T.sz, fun i v hg => T.at_ i v (h.get i v hg)⟩
def enum : Nat → List Value → List (Nat × Value)
  | _, [] => []
  | k, v :: r => (k, v) :: enum (k + 1) r
theorem enum_get : ∀ (vs : List Value) (k i : Nat) (v : Value), getT (enum k vs) i = some v → k ≤ i ∧ vs[i - k]? = some v
  | [], k, i, v, h => by cases h
  | u :: r, k, i, v, h => by
    unfold enum getT at h
    cases hb : Nat.beq k i
    · rw [hb] at h
      have hne : k ≠ i := fun e => by subst e; simp at hb
      obtain ⟨h1, h2⟩ := enum_get r (k + 1) i v h
      refine ⟨by omega, ?_⟩
      rw [show i - k = (i - (k + 1)) + 1 from by omega]
      simpa using h2
    · rw [hb] at h
      obtain rfl := Nat.eq_of_beq_eq_true hb
      simp at h; subst h; simp

/-! ### memory -/
/-- every cell of m stands in w, too -/
def Sub (m w : World) : Prop := ∀ p v, m.cell? p = some v → w.cell? p = some v
theorem Sub.refl (m : World) : Sub m m := fun _ _ h => h
theorem Sub.trans {a b c : World} (h : Sub a b) (k : Sub b c) : Sub a c := fun p v e => k p v (h p v e)
theorem sub_below {w w' : World} (h : Below w.heap.size w w') : Sub w w' := fun p v e => by
  rw [h.cell (World.block_lt_of_cell? w _ e)]; exact e

structure Blk where
  adr : Nat
  cs : List Value
  ty : TypeId

/-- what a call begins with: the world, the blocks that it may write, the memory that stands still -/
structure Cx where
  W : World
  X : List Nat
  m0 : World

/-- old blocks stand as they did, but for those of X -/
structure Kept (X : List Nat) (w w' : World) : Prop where
  os : w'.os = w.os
  tape : w'.tape = w.tape
  output : w'.output = w.output
  size : w.heap.size ≤ w'.heap.size
  block : ∀ k, k < w.heap.size → k ∉ X → w'.heap[k]? = w.heap[k]?
theorem Kept.refl (X : List Nat) (w : World) : Kept X w w := ⟨rfl, rfl, rfl, Nat.le_refl _, fun _ _ _ => rfl⟩
theorem Kept.below {w w' : World} (h : Kept [] w w') : Below w.heap.size w w' := ⟨h.os, h.tape, h.output, h.size, fun k hk => h.block k hk (by simp)⟩
theorem kept_below {w w' : World} (X : List Nat) (h : Below w.heap.size w w') : Kept X w w' := ⟨h.os, h.tape, h.output, h.size, fun k hk _ => h.block k hk⟩

/-- what else holds of the world: R, that hangs on the blocks S alone -/
structure Ext where
  S : Nat → Prop
  R : World → Prop
  stab : ∀ w w', (∀ k, S k → w'.heap[k]? = w.heap[k]?) → R w → R w'
  dom : ∀ w k, R w → S k → k < w.heap.size
def E0 : Ext := ⟨fun _ => False, fun _ => True, fun _ _ _ _ => trivial, fun _ _ _ h => h.elim⟩

structure MemE (E : Ext) (c : Cx) (m : World) (bs : List Blk) (w : World) : Prop where
  kept : Kept c.X c.W w
  sub0 : Sub c.m0 m
  sub : Sub m w
  fresh : ∀ p v, p.block < c.W.heap.size → m.cell? p = some v → c.m0.cell? p = some v
  own : ∀ b ∈ bs, (c.W.heap.size ≤ b.adr ∨ b.adr ∈ c.X) ∧ w.heap[b.adr]? = some (.cells b.cs.toArray b.ty (0, 0)) ∧ ∀ i s, m.cell? ⟨b.adr, i, s⟩ = none
  nodup : (bs.map Blk.adr).Nodup
  ext : E.R w
  loose : ∀ k, E.S k → (c.W.heap.size ≤ k ∨ k ∈ c.X) ∧ k ∉ bs.map Blk.adr ∧ ∀ i s, m.cell? ⟨k, i, s⟩ = none
abbrev Mem := MemE E0

theorem cell_none {m w : World} (h : Sub m w) {g : Nat} (hg : w.heap.size ≤ g) (i : Nat) (s : Option Nat) : m.cell? ⟨g, i, s⟩ = none := by
  cases hc : m.cell? ⟨g, i, s⟩ with
  | none => rfl
  | some v =>
    have := World.block_lt_of_cell? w _ (h _ _ hc)
    simp only at this
    omega

/-- a block of the list, and the others -/
inductive Take : List Blk → Nat → List Value → TypeId → List Blk → Prop
  | here {g : Nat} {cs : List Value} {t : TypeId} {r : List Blk} : Take (⟨g, cs, t⟩ :: r) g cs t r
  | there {b : Blk} {r r' : List Blk} {g : Nat} {cs : List Value} {t : TypeId} (h : Take r g cs t r') : Take (b :: r) g cs t (b :: r')
theorem Take.perm {bs r : List Blk} {g : Nat} {cs : List Value} {t : TypeId} (h : Take bs g cs t r) : bs.Perm (⟨g, cs, t⟩ :: r) := by
  induction h with
  | here => exact .refl _
  | there _ ih => exact (List.Perm.cons _ ih).trans (.swap _ _ _)

section
variable {E : Ext} {c : Cx} {m w : World} {bs r : List Blk} {g : Nat} {cs : List Value} {t : TypeId}
theorem MemE.perm (F : MemE E c m bs w) (h : bs.Perm r) : MemE E c m r w :=
  ⟨F.kept, F.sub0, F.sub, F.fresh, fun b hb => F.own b (h.symm.subset hb), (h.map Blk.adr).nodup_iff.1 F.nodup, F.ext, fun k hk => ⟨(F.loose k hk).1, fun hm => (F.loose k hk).2.1 ((h.map Blk.adr).symm.subset hm), (F.loose k hk).2.2⟩⟩
theorem MemE.get (F : MemE E c m bs w) (h : Take bs g cs t r) : w.heap[g]? = some (.cells cs.toArray t (0, 0)) := (F.own ⟨g, cs, t⟩ (h.perm.symm.subset (by simp))).2.1
theorem MemE.front (F : MemE E c m bs w) (h : Take bs g cs t r) : MemE E c m (⟨g, cs, t⟩ :: r) w := F.perm h.perm
theorem MemE.drop {b : Blk} (F : MemE E c m (b :: r) w) : MemE E c m r w :=
  ⟨F.kept, F.sub0, F.sub, F.fresh, fun x hx => F.own x (List.mem_cons_of_mem _ hx), (List.nodup_cons.1 F.nodup).2, F.ext, fun k hk => ⟨(F.loose k hk).1, fun hm => (F.loose k hk).2.1 (List.mem_cons_of_mem _ hm), (F.loose k hk).2.2⟩⟩
theorem MemE.size (F : MemE E c m bs w) : c.W.heap.size ≤ w.heap.size := F.kept.size
theorem MemE.lt (F : MemE E c m bs w) {b : Blk} (hb : b ∈ bs) : b.adr < w.heap.size := (Array.getElem?_eq_some_iff.1 (F.own b hb).2.1).1

/-- a world that has grown -/
theorem MemE.below (F : MemE E c m bs w) {w' : World} (hb : Below w.heap.size w w') : MemE E c m bs w' where
  kept := ⟨hb.os.trans F.kept.os, hb.tape.trans F.kept.tape, hb.output.trans F.kept.output, Nat.le_trans F.kept.size hb.size, fun k hk hx => (hb.block k (Nat.lt_of_lt_of_le hk F.kept.size)).trans (F.kept.block k hk hx)⟩
  sub0 := F.sub0
  sub := F.sub.trans (sub_below hb)
  fresh := F.fresh
  own b h := ⟨(F.own b h).1, by rw [hb.block _ (F.lt h)]; exact (F.own b h).2.1, (F.own b h).2.2⟩
  nodup := F.nodup
  ext := E.stab w w' (fun k hk => hb.block k (E.dom w k F.ext hk)) F.ext
  loose := F.loose

theorem MemE.alloc (F : MemE E c m bs w) (cs : List Value) (t : TypeId) : MemE E c m (⟨w.heap.size, cs, t⟩ :: bs) (w.alloc (.cells cs.toArray t (0, 0))) := by
  have F' := F.below (balloc w (.cells cs.toArray t (0, 0)))
  refine ⟨F'.kept, F'.sub0, F'.sub, F'.fresh, fun b hb => ?_, ?_, F'.ext, fun k hk => ⟨(F.loose k hk).1, fun hm => ?_, (F.loose k hk).2.2⟩⟩
  · rcases List.mem_cons.1 hb with rfl | hb
    · exact ⟨.inl F.size, heap_alloc_new _ _, fun i s => cell_none F.sub (Nat.le_refl _) i s⟩
    · exact F'.own b hb
  · rw [List.map_cons, List.nodup_cons]
    refine ⟨fun h => ?_, F.nodup⟩
    obtain ⟨b, hb, he⟩ := List.mem_map.1 h
    have := F.lt hb
    simp only at he
    omega
  · rcases List.mem_cons.1 hm with h | h
    · have := E.dom w k F.ext hk
      simp only at h
      omega
    · exact (F.loose k hk).2.1 h

theorem MemE.set (F : MemE E c m (⟨g, cs, t⟩ :: r) w) (cs' : List Value) {w' : World} (h1 : w'.heap[g]? = some (.cells cs'.toArray t (0, 0))) (h2 : ∀ k, k ≠ g → w'.heap[k]? = w.heap[k]?)
    (hos : w'.os = w.os) (ht : w'.tape = w.tape) (ho : w'.output = w.output) (hs : w'.heap.size = w.heap.size) : MemE E c m (⟨g, cs', t⟩ :: r) w' := by
  obtain ⟨hg, _, hm⟩ := F.own ⟨g, cs, t⟩ (by simp)
  refine ⟨⟨hos.trans F.kept.os, ht.trans F.kept.tape, ho.trans F.kept.output, by rw [hs]; exact F.kept.size, fun k hk hx => ?_⟩, F.sub0, fun p v e => ?_, F.fresh, fun b hb => ?_, F.nodup, E.stab w w' (fun k hk => h2 k (fun e => (F.loose k hk).2.1 (by simp [e]))) F.ext, F.loose⟩
  · rw [h2 k (fun e => by
      subst e
      rcases hg with hg | hg
      · simp only at hg; omega
      · exact hx hg)]
    exact F.kept.block k hk hx
  · have hp : p.block ≠ g := fun e => by
      have := hm p.off p.spot
      obtain ⟨pb, po, ps⟩ := p
      subst e
      rw [this] at e
      cases e
    rw [World.cell?_of_block (h2 _ hp)]
    exact F.sub p v e
  · rcases List.mem_cons.1 hb with rfl | hb
    · exact ⟨hg, h1, hm⟩
    · have hne : b.adr ≠ g := fun e => (List.nodup_cons.1 F.nodup).1 (List.mem_map.2 ⟨b, hb, e⟩)
      have h := F.own b (List.mem_cons_of_mem _ hb)
      exact ⟨h.1, by rw [h2 _ hne]; exact h.2.1, h.2.2⟩
end
end Sy
end Go.Proofs.YtohhjbfkgokopaaDoor
