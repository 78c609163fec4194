/- A region that draws its order, in the walk that names what it knows: reading operations are taken first, each call stands alone (it may write the blocks of X), what writes comes last. Over any program. No condition. Printed by a program (gensyd.py). Loops in the walk that names what it knows; bits of numbers. Over any program. No condition. Calls under a guard that stands, in a drawn region. Over any program. No condition. A walk cut where its branches meet. Over any program. No condition. -/
import Derived.Test.YtniopkoaplkpkaaSyC
import Derived.Test.YtniopkoaplkpkaaBase
namespace Go.Proofs.Ytniopkoaplkpkaa
open Go.RowKit
set_option linter.unusedVariables false
namespace Sy

/-- worlds that stand as w0 did below B, but for the blocks of X -/
structure BelowX (X : List Nat) (B : Nat) (w w' : World) : Prop where
  os : w'.os = w.os
  tape : w'.tape = w.tape
  output : w'.output = w.output
  size : w.heap.size ≤ w'.heap.size
  block : ∀ k, k < B → k ∉ X → w'.heap[k]? = w.heap[k]?
theorem BelowX.refl (X : List Nat) (B : Nat) (w : World) : BelowX X B w w := ⟨rfl, rfl, rfl, Nat.le_refl _, fun _ _ _ => rfl⟩
theorem BelowX.trans {X : List Nat} {B : Nat} {a b c : World} (h : BelowX X B a b) (k : BelowX X B b c) : BelowX X B a c :=
  ⟨k.os.trans h.os, k.tape.trans h.tape, k.output.trans h.output, Nat.le_trans h.size k.size, fun i hi hx => (k.block i hi hx).trans (h.block i hi hx)⟩
theorem BelowX.mono {X : List Nat} {B B' : Nat} {w w' : World} (h : BelowX X B w w') (hB : B' ≤ B) : BelowX X B' w w' := ⟨h.os, h.tape, h.output, h.size, fun k hk => h.block k (Nat.lt_of_lt_of_le hk hB)⟩
theorem belowX {X : List Nat} {B : Nat} {w w' : World} (h : Below B w w') : BelowX X B w w' := ⟨h.os, h.tape, h.output, h.size, fun k hk _ => h.block k hk⟩

section
variable {P : Program} {ops : Array Oper} {Q : Exit → Act → World → Prop} {md : Region.Mode} {X : List Nat}

def nthL : List Oper → Nat → Option Oper
  | [], _ => none
  | o :: _, 0 => some o
  | _ :: r, i + 1 => nthL r i
def nthO (ops : Array Oper) (i : Nat) : Option Oper := nthL ops.toList i
theorem nthL_spec : ∀ (l : List Oper) (i : Nat), nthL l i = l[i]?
  | [], _ => rfl
  | o :: _, 0 => rfl
  | _ :: r, i + 1 => by simpa [nthL] using nthL_spec r i
theorem nthO_spec {ops : Array Oper} {i : Nat} {o : Oper} (h : nthO ops i = some o) : ops[i]? = some o := by
  unfold nthO at h
  rw [nthL_spec] at h
  simpa using h
/-- the order in which the operations are taken: t: a plain one, early; h: one that stands alone; f: either of two -/
inductive Ot
  | e
  | t (i : Nat) (r : Ot)
  | h (i : Nat) (r : Ot)
  | f (i : Nat) (r : Ot) (j : Nat) (s : Ot)
  | g (i : Nat) (r : Ot) (j : Nat) (s : Ot) (k : Nat) (u : Ot)
def Ot.size : Ot → Nat
  | .e => 0
  | .t _ r => r.size + 1
  | .h _ r => r.size + 1
  | .f _ r _ _ => r.size + 1
  | .g _ r _ _ _ _ => r.size + 1
def okT (md : Region.Mode) (ops : Array Oper) (t : List Nat) : Ot → Array Bool → Bool
  | .e, listed => tailB md ops t t listed
  | .t i r, listed => (Region.ready md ops listed).contains i && Region.free md ops listed i && waitB md ops t i && okT md ops t r (listed.setIfInBounds i true)
  | .h i r, listed => (Region.ready md ops listed == [i]) && okT md ops t r (listed.setIfInBounds i true)
  | .f i r j s, listed => (Region.ready md ops listed == [i, j]) && (r.size == s.size) && okT md ops t r (listed.setIfInBounds i true) && okT md ops t s (listed.setIfInBounds j true)
  | .g i r j s k u, listed => (Region.ready md ops listed == [i, j, k]) && (r.size == s.size) && (r.size == u.size) && okT md ops t r (listed.setIfInBounds i true) && okT md ops t s (listed.setIfInBounds j true) && okT md ops t u (listed.setIfInBounds k true)
def uxB (ops : Array Oper) (ord : Ot) (t : List Nat) : Bool := Region.noSelect ops && (ord.size + t.length == ops.size) && okT .any ops t ord (Array.replicate ops.size false)

def wpUy (P : Program) (ops : Array Oper) (Q : Exit → Act → World → Prop) : Ot → List Nat → Nat → World → Act → World → Prop
  | .e, _, _, _, a, w => Q .normal a w
  | .t i r, X, B, w0, a, w =>
    match ops[i]? with
    | none => False
    | some o =>
      if Region.wanted o (yielded ops a.tmps) then ∃ v, (∀ w, BelowX X B w0 w → (execOp a.eval o).run P w = .ok (.value v) w) ∧ (wpUy P ops Q r) X B w0 (a.put o.dst v) w
      else (wpUy P ops Q r) X B w0 (a.put o.dst undef) w
  | .h i r, X, B, w0, a, w =>
    match ops[i]? with
    | none => False
    | some o =>
      if Region.wanted o (yielded ops a.tmps) then o.wp P a w (fun a' w' => ∃ X' B', B ≤ B' ∧ (∀ k, k ∈ X' → k ∈ X ∨ B ≤ k) ∧ BelowX X B w0 w' ∧ (wpUy P ops Q r) X' B' w' a' w') Q
      else (wpUy P ops Q r) X B w0 (a.put o.dst undef) w
  | .f i r j s, X, B, w0, a, w =>
    (match ops[i]? with
    | none => False
    | some o =>
      if Region.wanted o (yielded ops a.tmps) then o.wp P a w (fun a' w' => ∃ X' B', B ≤ B' ∧ (∀ k, k ∈ X' → k ∈ X ∨ B ≤ k) ∧ BelowX X B w0 w' ∧ (wpUy P ops Q r) X' B' w' a' w') Q
      else (wpUy P ops Q r) X B w0 (a.put o.dst undef) w) ∧
    (match ops[j]? with
    | none => False
    | some o =>
      if Region.wanted o (yielded ops a.tmps) then o.wp P a w (fun a' w' => ∃ X' B', B ≤ B' ∧ (∀ k, k ∈ X' → k ∈ X ∨ B ≤ k) ∧ BelowX X B w0 w' ∧ (wpUy P ops Q s) X' B' w' a' w') Q
      else (wpUy P ops Q s) X B w0 (a.put o.dst undef) w)
  | .g i r j s k u, X, B, w0, a, w =>
    (match ops[i]? with
    | none => False
    | some o =>
      if Region.wanted o (yielded ops a.tmps) then o.wp P a w (fun a' w' => ∃ X' B', B ≤ B' ∧ (∀ k, k ∈ X' → k ∈ X ∨ B ≤ k) ∧ BelowX X B w0 w' ∧ (wpUy P ops Q r) X' B' w' a' w') Q
      else (wpUy P ops Q r) X B w0 (a.put o.dst undef) w) ∧
    (match ops[j]? with
    | none => False
    | some o =>
      if Region.wanted o (yielded ops a.tmps) then o.wp P a w (fun a' w' => ∃ X' B', B ≤ B' ∧ (∀ k, k ∈ X' → k ∈ X ∨ B ≤ k) ∧ BelowX X B w0 w' ∧ (wpUy P ops Q s) X' B' w' a' w') Q
      else (wpUy P ops Q s) X B w0 (a.put o.dst undef) w) ∧
    (match ops[k]? with
    | none => False
    | some o =>
      if Region.wanted o (yielded ops a.tmps) then o.wp P a w (fun a' w' => ∃ X' B', B ≤ B' ∧ (∀ k, k ∈ X' → k ∈ X ∨ B ≤ k) ∧ BelowX X B w0 w' ∧ (wpUy P ops Q u) X' B' w' a' w') Q
      else (wpUy P ops Q u) X B w0 (a.put o.dst undef) w)

abbrev wpUx (P : Program) (X : List Nat) (ops : Array Oper) (Q : Exit → Act → World → Prop) (r : Ot) (B : Nat) (w0 : World) (a : Act) (w : World) : Prop := wpUy P ops Q r X B w0 a w
theorem belowX_grow {X X' : List Nat} {B B' : Nat} {w0 w' x : World} (h1 : BelowX X B w0 w') (h0 : B ≤ B') (hX : ∀ k, k ∈ X' → k ∈ X ∨ B ≤ k) (hx : BelowX X' B' w' x) : BelowX X B w0 x :=
  h1.trans ⟨hx.os, hx.tape, hx.output, hx.size, fun k hk hkx => hx.block k (Nat.lt_of_lt_of_le hk h0) (fun h => (hX k h).elim hkx (fun h => Nat.not_le_of_lt hk h))⟩
theorem wpOp_ux {t : List Nat} {i : Nat} {r : Ot} {B n : Nat} {w0 w : World} {listed : Array Bool} {a : Act} (hb : BelowX X B w0 w)
    (ih : ∀ (X : List Nat) (B : Nat) (w0 : World) (a : Act) (w : World), BelowX X B w0 w → wpUx P X ops (AtTail P ops Q t) r B w0 a w → wpAnyT P md ops Q t (BelowX X B w0) n (listed.setIfInBounds i true) a w)
    (h : match ops[i]? with
    | none => False
    | some o =>
      if Region.wanted o (yielded ops a.tmps) then o.wp P a w (fun a' w' => ∃ X' B', B ≤ B' ∧ (∀ k, k ∈ X' → k ∈ X ∨ B ≤ k) ∧ BelowX X B w0 w' ∧ wpUx P X' ops (AtTail P ops Q t) r B' w' a' w') (AtTail P ops Q t)
      else wpUx P X ops (AtTail P ops Q t) r B w0 (a.put o.dst undef) w) :
    wpOp P ops Q i (fun a' w' => (i ∉ t → BelowX X B w0 w') ∧ wpAnyT P md ops Q t (BelowX X B w0) n (listed.setIfInBounds i true) a' w') a w := by
  unfold wpOp
  split at h
  · exact h.elim
  · rename_i o ho
    simp only [ho]
    split
    · rename_i hwt
      simp only [hwt, if_true] at h
      refine .inl (wp_exits (Q' := AtTail P ops Q t) (fun c a w h => h) (fun a w h => h) (Oper.wp_mono ?_ h))
      intro a' w' ⟨X', B', h0, hX, h1, h2⟩
      exact ⟨fun _ => h1, wpAnyT_more (fun x hx => belowX_grow h1 h0 hX hx) _ _ _ _ (ih X' B' w' a' w' (BelowX.refl _ _ _) h2)⟩
    · rename_i hwt
      simp only [hwt] at h
      exact ⟨fun _ => hb, ih X B w0 _ w hb h⟩

theorem wpAnyT_of_ux {t : List Nat} (hs : Region.noSelect ops = true) (hQ : ∀ c a w, ¬ Q (.panic c) a w) : ∀ (l : Ot) (X : List Nat) (B : Nat) (w0 : World) (listed : Array Bool) (a : Act) (w : World),
    okT md ops t l listed = true → BelowX X B w0 w → wpUx P X ops (AtTail P ops Q t) l B w0 a w → wpAnyT P md ops Q t (BelowX X B w0) (l.size + t.length) listed a w
  | .e, X, B, w0, listed, a, w, hB, _, h => by
    rw [Ot.size, Nat.zero_add]
    exact wpAnyT_of_tail t listed a w hB h
  | .h i r, X, B, w0, listed, a, w, hB, hb, h => by
    simp only [okT, Bool.and_eq_true, beq_iff_eq] at hB
    rw [Ot.size, Nat.add_right_comm]
    refine ⟨fun h0 => (by rw [hB.1] at h0; cases h0), fun j hj => ?_⟩
    rw [hB.1] at hj
    obtain rfl := List.mem_singleton.1 hj
    unfold wpUx wpUy at h
    exact wpOp_ux hb (fun X B w0 a w h1 h2 => wpAnyT_of_ux hs hQ r X B w0 _ a w hB.2 h1 h2) h
  | .f i r k s, X, B, w0, listed, a, w, hB, hb, h => by
    simp only [okT, Bool.and_eq_true, beq_iff_eq] at hB
    rw [Ot.size, Nat.add_right_comm]
    refine ⟨fun h0 => (by rw [hB.1.1.1] at h0; cases h0), fun j hj => ?_⟩
    rw [hB.1.1.1] at hj
    unfold wpUx wpUy at h
    rcases List.mem_cons.1 hj with rfl | hj
    · exact wpOp_ux hb (fun X B w0 a w h1 h2 => wpAnyT_of_ux hs hQ r X B w0 _ a w hB.1.2 h1 h2) h.1
    · obtain rfl := List.mem_singleton.1 hj
      rw [hB.1.1.2]
      exact wpOp_ux hb (fun X B w0 a w h1 h2 => wpAnyT_of_ux hs hQ s X B w0 _ a w hB.2 h1 h2) h.2
  | .g i r k s l u, X, B, w0, listed, a, w, hB, hb, h => by
    simp only [okT, Bool.and_eq_true, beq_iff_eq] at hB
    obtain ⟨⟨⟨⟨⟨h0r, h1s⟩, h2s⟩, hr⟩, hs'⟩, hu⟩ := hB
    rw [Ot.size, Nat.add_right_comm]
    refine ⟨fun h0 => (by rw [h0r] at h0; cases h0), fun j hj => ?_⟩
    rw [h0r] at hj
    unfold wpUx wpUy at h
    rcases List.mem_cons.1 hj with rfl | hj
    · exact wpOp_ux hb (fun X B w0 a w h1 h2 => wpAnyT_of_ux hs hQ r X B w0 _ a w hr h1 h2) h.1
    rcases List.mem_cons.1 hj with rfl | hj
    · rw [h1s]
      exact wpOp_ux hb (fun X B w0 a w h1 h2 => wpAnyT_of_ux hs hQ s X B w0 _ a w hs' h1 h2) h.2.1
    · obtain rfl := List.mem_singleton.1 hj
      rw [h2s]
      exact wpOp_ux hb (fun X B w0 a w h1 h2 => wpAnyT_of_ux hs hQ u X B w0 _ a w hu h1 h2) h.2.2
  | .t i r, X, B, w0, listed, a, w, hB, hb, h => by
    simp only [okT, Bool.and_eq_true] at hB
    obtain ⟨⟨⟨hr, hf⟩, hwt'⟩, hB'⟩ := hB
    rw [Ot.size, Nat.add_right_comm]
    unfold wpUx wpUy at h
    split at h
    · exact h.elim
    · rename_i o ho
      split at h
      · rename_i hwt
        obtain ⟨v, h1, h2⟩ := h
        exact wpAnyT_take ho hs hwt' hQ _ _ _ _ (Region.free_spec ho hf) (by simpa using hr) (.inl ⟨hwt, h1⟩) hb (wpAnyT_of_ux hs hQ r X B w0 _ _ w hB' hb h2)
      · rename_i hwt
        exact wpAnyT_take ho hs hwt' hQ _ _ _ _ (Region.free_spec ho hf) (by simpa using hr) (.inr ⟨by simpa using hwt, rfl⟩) hb (wpAnyT_of_ux hs hQ r X B w0 _ _ w hB' hb h)

variable {E : Ext} {tab : List (Nat × Ty)} {fl : List Nat} {a : Act} {n : Nat} {ts : List (Nat × Value)} {w : World} {ty : TypeId} {pos : String} {af : Array Edge} {c : Cx} {m : World} {bs bs' : List Blk} {r : Ot} {i : Nat} {gd : Option (Nat × Bool)}

/-- the beginning -/
theorem sx_region [S : Seat P tab fl] {id : Nat} (F : MemE E c m bs w) (X : List Nat) (ord : Ot) (t : List Nat) (hB : uxB ops ord t = true)
    (h : ∀ w', MemE E c m bs w' → wpUx P X ops (AtTail P ops (NoPanic Q) t) ord w'.heap.size w' a w') : (Code.region id ops true).wp P Q a w := by
  simp only [uxB, Bool.and_eq_true, beq_iff_eq] at hB
  refine wp_region_noPanic (wp_region_any S.mixed (wpAny_of_T (T := t) (S := BelowX X w.drew.heap.size w.drew) _ _ _ _ ?_))
  rw [← hB.1.2]
  exact wpAnyT_of_ux hB.1.1 (fun c a w h => h) ord _ _ _ _ a _ (by rw [hB.1.2]; exact hB.2) (BelowX.refl _ _ _) (h _ (F.below (Below.refl _ w).drew))
theorem sx_regionW [S : Seat P tab fl] {id : Nat} (T : Tm a n ts) (F : MemE E c m bs w) (x : Nat) {ad : Addr} (hx : getT ts x = some (.pointer (some ad))) (ord : Ot) (t : List Nat) (hB : uxB ops ord t = true)
    (h : ∀ w', MemE E c m bs w' → wpUx P [ad.block] ops (AtTail P ops (NoPanic Q) t) ord w'.heap.size w' a w') : (Code.region id ops true).wp P Q a w := sx_region F _ ord t hB h
theorem is_drawn {id : Nat} {l : List Oper} (h : (Code.region id l.toArray true).wp P Q a w) : (Code.region id l.toArray true).wp P Q a w := h
theorem sx_fork {i j : Nat} {r q : Ot} (h1 : wpUx P X ops Q (.h i r) w.heap.size w a w) (h2 : wpUx P X ops Q (.h j q) w.heap.size w a w) : wpUx P X ops Q (.f i r j q) w.heap.size w a w := by
  unfold wpUx wpUy at h1 h2 ⊢
  exact ⟨h1, h2⟩
theorem sx_fork3 {i j k : Nat} {r q s : Ot} (h1 : wpUx P X ops Q (.h i r) w.heap.size w a w) (h2 : wpUx P X ops Q (.h j q) w.heap.size w a w) (h3 : wpUx P X ops Q (.h k s) w.heap.size w a w) : wpUx P X ops Q (.g i r j q k s) w.heap.size w a w := by
  unfold wpUx wpUy at h1 h2 h3 ⊢
  exact ⟨h1, h2, h3⟩
theorem sx_nil {t : List Nat} {B : Nat} {w0 : World} (h : wpTail P ops Q t a w) : wpUx P X ops (AtTail P ops Q t) .e B w0 a w := h
theorem sx_end (h : Q .normal a w) : wpTail P ops (NoPanic Q) [] a w := h

/-- the memory that is read while others write X -/
theorem MemE.belowX (F : MemE E c m bs w) {w' : World} (hb : BelowX X w.heap.size w w') {g : Nat} {cs : List Value} {t : TypeId} (hk : Take bs g cs t bs') (hx : g ∉ X) : w'.heap[g]? = some (.cells cs.toArray t (0, 0)) := by
  rw [hb.block g (F.lt (b := ⟨g, cs, t⟩) (hk.perm.symm.subset (by simp))) hx]
  exact F.get hk
theorem MemE.subX (F : MemE E c m bs w) {w' : World} (hb : BelowX X w.heap.size w w') (hx : ∀ x ∈ X, x ∈ bs.map Blk.adr) : Sub m w' := fun p v e => by
  have h1 := F.sub p v e
  have hlt := World.block_lt_of_cell? w _ h1
  rw [World.cell?_of_block (w := w) (hb.block p.block hlt (fun hp => by
    obtain ⟨b, hb, he⟩ := List.mem_map.1 (hx _ hp)
    have := (F.own b hb).2.2 p.off p.spot
    rw [he, e] at this
    cases this))]
  exact h1

/-- a plain operation, taken early -/
def Uf (P : Program) (X : List Nat) (w : World) (o : Oper) (a : Act) (K : Act → Prop) : Prop := ∃ v, (∀ w', BelowX X w.heap.size w w' → (execOp a.eval o).run P w' = .ok (.value v) w') ∧ K (a.put o.dst v)
theorem sx_plain {o : Oper} (hi' : nthO ops i = some o := by exact rfl) (hg : o.guard = none := by exact rfl) (h : Uf P X w o a fun a' => wpUx P X ops Q r w.heap.size w a' w) : wpUx P X ops Q (.t i r) w.heap.size w a w := by
  have hi := nthO_spec hi'
  unfold wpUx wpUy
  simp only [hi]
  rw [if_pos (by simp [Region.wanted, hg])]
  exact h
theorem sx_guard {d : Nat} {op : Op} {u : Value} {j e : Nat} {b : Bool} (hi' : nthO ops i = some ⟨some d, op, ty, pos, af, some (j, b)⟩ := by exact rfl) (T : Tm a n ts) (hj : (ops[j]?).bind (·.dst) = some e := by exact rfl) (hv : getT ts e = some u := by exact rfl) (hy : (yv u == some b) = true := by exact rfl)
    (h : Uf P X w ⟨some d, op, ty, pos, af, none⟩ a fun a' => wpUx P X ops Q r w.heap.size w a' w) : wpUx P X ops Q (.t i r) w.heap.size w a w := by
  have hi := nthO_spec hi'
  have hw := wanted_t (ops := ops) (o := ⟨some d, op, ty, pos, af, some (j, b)⟩) rfl T hj hv
  rw [hy] at hw
  unfold wpUx wpUy
  simp only [hi]
  rw [if_pos hw]
  exact h
theorem sx_unguard {d : Nat} {op : Op} {u : Value} {j e : Nat} {b : Bool} (hi' : nthO ops i = some ⟨some d, op, ty, pos, af, some (j, b)⟩ := by exact rfl) (T : Tm a n ts) (hj : (ops[j]?).bind (·.dst) = some e := by exact rfl) (hv : getT ts e = some u := by exact rfl) (hy : (yv u == some b) = false := by exact rfl) (hd : Nat.blt d n = true := by exact rfl)
    (h : ∀ a', Tm a' n ((d, undef) :: ts) → wpUx P X ops Q r w.heap.size w a' w) : wpUx P X ops Q (.t i r) w.heap.size w a w := by
  have hi := nthO_spec hi'
  have hw := wanted_t (ops := ops) (o := ⟨some d, op, ty, pos, af, some (j, b)⟩) rfl T hj hv
  rw [hy] at hw
  unfold wpUx wpUy
  simp only [hi]
  rw [if_neg (by rw [hw]; simp)]
  exact h _ (T.put (by simpa [Nat.blt_eq] using hd) undef)
theorem sx_unguardH {d : Nat} {op : Op} {u : Value} {j e : Nat} {b : Bool} (hi' : nthO ops i = some ⟨some d, op, ty, pos, af, some (j, b)⟩ := by exact rfl) (T : Tm a n ts) (hj : (ops[j]?).bind (·.dst) = some e := by exact rfl) (hv : getT ts e = some u := by exact rfl) (hy : (yv u == some b) = false := by exact rfl) (hd : Nat.blt d n = true := by exact rfl)
    (h : ∀ a', Tm a' n ((d, undef) :: ts) → wpUx P X ops Q r w.heap.size w a' w) : wpUx P X ops Q (.h i r) w.heap.size w a w := by
  have hi := nthO_spec hi'
  have hw := wanted_t (ops := ops) (o := ⟨some d, op, ty, pos, af, some (j, b)⟩) rfl T hj hv
  rw [hy] at hw
  unfold wpUx wpUy
  simp only [hi]
  rw [if_neg (by rw [hw]; simp)]
  exact h _ (T.put (by simpa [Nat.blt_eq] using hd) undef)
variable {K : Act → Prop}
theorem st_pure [S : Seat P tab fl] {d : Nat} {op : Op} {v : Value} {rest : List Oper} (T : Tm a n ts) (hr : Runs P a op ty w v := by first | exact Go.Proofs.Ytniopkoaplkpkaa.Sy.runs_move (by assumption) | exact Go.Proofs.Ytniopkoaplkpkaa.Sy.runs_assign (by assumption) | exact Go.Proofs.Ytniopkoaplkpkaa.Sy.runs_fieldAddr (by assumption) | exact Go.Proofs.Ytniopkoaplkpkaa.Sy.runs_extract (by assumption) | exact Go.Proofs.Ytniopkoaplkpkaa.Sy.runs_eql (by assumption) | exact Go.Proofs.Ytniopkoaplkpkaa.Sy.runs_neq (by assumption) | exact Go.Proofs.Ytniopkoaplkpkaa.Sy.runs_lss (by assumption) | exact Go.Proofs.Ytniopkoaplkpkaa.Sy.runs_leq (by assumption) | exact Go.Proofs.Ytniopkoaplkpkaa.Sy.runs_gtr (by assumption) | exact Go.Proofs.Ytniopkoaplkpkaa.Sy.runs_geq (by assumption) | exact Go.Proofs.Ytniopkoaplkpkaa.Sy.runs_not (by assumption) | exact Go.Proofs.Ytniopkoaplkpkaa.Sy.runs_len (by assumption) | exact Go.Proofs.Ytniopkoaplkpkaa.Sy.runs_indexAddr (by assumption) | exact Go.Proofs.Ytniopkoaplkpkaa.Sy.runs_pick_t (by assumption) | exact Go.Proofs.Ytniopkoaplkpkaa.Sy.runs_pick_f (by assumption) | exact Go.Proofs.Ytniopkoaplkpkaa.Sy.runs_pick (by assumption) | exact Go.Proofs.Ytniopkoaplkpkaa.Sy.runs_add (by assumption) | exact Go.Proofs.Ytniopkoaplkpkaa.Sy.runs_sub (by assumption) | exact Go.Proofs.Ytniopkoaplkpkaa.Sy.runs_mul (by assumption) | exact Go.Proofs.Ytniopkoaplkpkaa.Sy.runs_and (by assumption) | exact Go.Proofs.Ytniopkoaplkpkaa.Sy.runs_or (by assumption) | exact Go.Proofs.Ytniopkoaplkpkaa.Sy.runs_xor (by assumption) | exact Go.Proofs.Ytniopkoaplkpkaa.Sy.runs_andNot (by assumption) | exact Go.Proofs.Ytniopkoaplkpkaa.Sy.runs_conv (by assumption) | exact Go.Proofs.Ytniopkoaplkpkaa.Sy.runs_shl (by assumption) | exact Go.Proofs.Ytniopkoaplkpkaa.Sy.runs_shr (by assumption) | exact Go.Proofs.Ytniopkoaplkpkaa.Sy.runs_quo (by assumption) | exact Go.Proofs.Ytniopkoaplkpkaa.Sy.runs_rem (by assumption) | exact Go.Proofs.Ytniopkoaplkpkaa.Sy.runs_nilCheck (by assumption) | exact Go.Proofs.Ytniopkoaplkpkaa.Sy.runs_makeFunc (by assumption) | exact Go.Proofs.Ytniopkoaplkpkaa.Sy.runs_eqB (by assumption) | exact Go.Proofs.Ytniopkoaplkpkaa.Sy.runs_neB (by assumption) | exact Go.Proofs.Ytniopkoaplkpkaa.Sy.runs_eqAgg (by assumption) | exact Go.Proofs.Ytniopkoaplkpkaa.Sy.runs_lenStr (by assumption)) (hd : Nat.blt d n = true := by exact rfl) (h : ∀ a', Tm a' n ((d, v) :: ts) → wpList P ops Q rest a' w) :
    wpList P ops Q (⟨some d, op, ty, pos, af, none⟩ :: rest) a w := st_val hr T hd h
theorem sx_val {d : Nat} {op : Op} {v : Value} (hr : ∀ w', BelowX X w.heap.size w w' → Runs P a op ty w' v) (T : Tm a n ts) (hd : Nat.blt d n = true) (h : ∀ a', Tm a' n ((d, v) :: ts) → K a') : Uf P X w ⟨some d, op, ty, pos, af, gd⟩ a K :=
  ⟨v, fun w' hb => (hr w' hb).out _ _ _ _, h _ (T.put (by simpa [Nat.blt_eq] using hd) v)⟩
theorem sx_pure [S : Seat P tab fl] {d : Nat} {op : Op} {v : Value} (T : Tm a n ts) (hr : ∀ w', Runs P a op ty w' v := by first | exact fun _ => Go.Proofs.Ytniopkoaplkpkaa.Sy.runs_move (by assumption) | exact fun _ => Go.Proofs.Ytniopkoaplkpkaa.Sy.runs_assign (by assumption) | exact fun _ => Go.Proofs.Ytniopkoaplkpkaa.Sy.runs_fieldAddr (by assumption) | exact fun _ => Go.Proofs.Ytniopkoaplkpkaa.Sy.runs_extract (by assumption) | exact fun _ => Go.Proofs.Ytniopkoaplkpkaa.Sy.runs_eql (by assumption) | exact fun _ => Go.Proofs.Ytniopkoaplkpkaa.Sy.runs_neq (by assumption) | exact fun _ => Go.Proofs.Ytniopkoaplkpkaa.Sy.runs_lss (by assumption) | exact fun _ => Go.Proofs.Ytniopkoaplkpkaa.Sy.runs_leq (by assumption) | exact fun _ => Go.Proofs.Ytniopkoaplkpkaa.Sy.runs_gtr (by assumption) | exact fun _ => Go.Proofs.Ytniopkoaplkpkaa.Sy.runs_geq (by assumption) | exact fun _ => Go.Proofs.Ytniopkoaplkpkaa.Sy.runs_not (by assumption) | exact fun _ => Go.Proofs.Ytniopkoaplkpkaa.Sy.runs_len (by assumption) | exact fun _ => Go.Proofs.Ytniopkoaplkpkaa.Sy.runs_indexAddr (by assumption) | exact fun _ => Go.Proofs.Ytniopkoaplkpkaa.Sy.runs_pick_t (by assumption) | exact fun _ => Go.Proofs.Ytniopkoaplkpkaa.Sy.runs_pick_f (by assumption) | exact fun _ => Go.Proofs.Ytniopkoaplkpkaa.Sy.runs_pick (by assumption) | exact fun _ => Go.Proofs.Ytniopkoaplkpkaa.Sy.runs_add (by assumption) | exact fun _ => Go.Proofs.Ytniopkoaplkpkaa.Sy.runs_sub (by assumption) | exact fun _ => Go.Proofs.Ytniopkoaplkpkaa.Sy.runs_mul (by assumption) | exact fun _ => Go.Proofs.Ytniopkoaplkpkaa.Sy.runs_and (by assumption) | exact fun _ => Go.Proofs.Ytniopkoaplkpkaa.Sy.runs_or (by assumption) | exact fun _ => Go.Proofs.Ytniopkoaplkpkaa.Sy.runs_xor (by assumption) | exact fun _ => Go.Proofs.Ytniopkoaplkpkaa.Sy.runs_andNot (by assumption) | exact fun _ => Go.Proofs.Ytniopkoaplkpkaa.Sy.runs_conv (by assumption) | exact fun _ => Go.Proofs.Ytniopkoaplkpkaa.Sy.runs_shl (by assumption) | exact fun _ => Go.Proofs.Ytniopkoaplkpkaa.Sy.runs_shr (by assumption) | exact fun _ => Go.Proofs.Ytniopkoaplkpkaa.Sy.runs_quo (by assumption) | exact fun _ => Go.Proofs.Ytniopkoaplkpkaa.Sy.runs_rem (by assumption) | exact fun _ => Go.Proofs.Ytniopkoaplkpkaa.Sy.runs_nilCheck (by assumption) | exact fun _ => Go.Proofs.Ytniopkoaplkpkaa.Sy.runs_makeFunc (by assumption) | exact fun _ => Go.Proofs.Ytniopkoaplkpkaa.Sy.runs_eqB (by assumption) | exact fun _ => Go.Proofs.Ytniopkoaplkpkaa.Sy.runs_neB (by assumption) | exact fun _ => Go.Proofs.Ytniopkoaplkpkaa.Sy.runs_eqAgg (by assumption) | exact fun _ => Go.Proofs.Ytniopkoaplkpkaa.Sy.runs_lenStr (by assumption)) (hd : Nat.blt d n = true := by exact rfl) (h : ∀ a', Tm a' n ((d, v) :: ts) → K a') : Uf P X w ⟨some d, op, ty, pos, af, gd⟩ a K :=
  ⟨v, fun w' hb => (hr w').out _ _ _ _, h _ (T.put (by simpa [Nat.blt_eq] using hd) v)⟩
theorem sx_run {d : Nat} {op : Op} {v : Value} (hr : ∀ w', Runs P a op ty w' v) (T : Tm a n ts) (hd : Nat.blt d n = true) (h : ∀ a', Tm a' n ((d, v) :: ts) → K a') : Uf P X w ⟨some d, op, ty, pos, af, gd⟩ a K := sx_val (fun w' _ => hr w') T hd h
theorem ux_move {d : Option Tmp} {x : Operand} (h : Uf P X w ⟨d, .move x, ty, pos, af, gd⟩ a K) : Uf P X w ⟨d, .move x, ty, pos, af, gd⟩ a K := h
theorem ux_assign {d : Option Tmp} {x : Operand} (h : Uf P X w ⟨d, .assign x, ty, pos, af, gd⟩ a K) : Uf P X w ⟨d, .assign x, ty, pos, af, gd⟩ a K := h
theorem ux_pick {d : Option Tmp} {x y z : Operand} (h : Uf P X w ⟨d, .pick x y z, ty, pos, af, gd⟩ a K) : Uf P X w ⟨d, .pick x y z, ty, pos, af, gd⟩ a K := h
theorem ux_alloc {d : Option Tmp} {t : TypeId} (h : Uf P X w ⟨d, .alloc t, ty, pos, af, gd⟩ a K) : Uf P X w ⟨d, .alloc t, ty, pos, af, gd⟩ a K := h
theorem ux_box {d : Option Tmp} {t : TypeId} {x : Operand} (h : Uf P X w ⟨d, .box t x, ty, pos, af, gd⟩ a K) : Uf P X w ⟨d, .box t x, ty, pos, af, gd⟩ a K := h
theorem ux_build {d : Option Tmp} {t : TypeId} {ps : Array (Nat × Operand)} (h : Uf P X w ⟨d, .build t ps, ty, pos, af, gd⟩ a K) : Uf P X w ⟨d, .build t ps, ty, pos, af, gd⟩ a K := h
theorem ux_load {d : Option Tmp} {t : TypeId} {x : Operand} (h : Uf P X w ⟨d, .load t x, ty, pos, af, gd⟩ a K) : Uf P X w ⟨d, .load t x, ty, pos, af, gd⟩ a K := h
theorem ux_store {d : Option Tmp} {t : TypeId} {x y : Operand} (h : Uf P X w ⟨d, .store t x y, ty, pos, af, gd⟩ a K) : Uf P X w ⟨d, .store t x y, ty, pos, af, gd⟩ a K := h
theorem ux_nilCheck {d : Option Tmp} {x : Operand} (h : Uf P X w ⟨d, .nilCheck x, ty, pos, af, gd⟩ a K) : Uf P X w ⟨d, .nilCheck x, ty, pos, af, gd⟩ a K := h
theorem ux_not {d : Option Tmp} {t : TypeId} {x : Operand} (h : Uf P X w ⟨d, .unOp .not t x, ty, pos, af, gd⟩ a K) : Uf P X w ⟨d, .unOp .not t x, ty, pos, af, gd⟩ a K := h
theorem ux_convert {d : Option Tmp} {s t : TypeId} {x : Operand} (h : Uf P X w ⟨d, .convert s t x, ty, pos, af, gd⟩ a K) : Uf P X w ⟨d, .convert s t x, ty, pos, af, gd⟩ a K := h
theorem ux_makeFunc {d : Option Tmp} {f : Fn} {us vs : Array Operand} (h : Uf P X w ⟨d, .makeFunc f us vs, ty, pos, af, gd⟩ a K) : Uf P X w ⟨d, .makeFunc f us vs, ty, pos, af, gd⟩ a K := h
theorem ux_fieldAddr {d : Option Tmp} {t : TypeId} {x : Operand} {f : Nat} (h : Uf P X w ⟨d, .fieldAddr t x f, ty, pos, af, gd⟩ a K) : Uf P X w ⟨d, .fieldAddr t x f, ty, pos, af, gd⟩ a K := h
theorem ux_field {d : Option Tmp} {t : TypeId} {x : Operand} {f : Nat} (h : Uf P X w ⟨d, .field t x f, ty, pos, af, gd⟩ a K) : Uf P X w ⟨d, .field t x f, ty, pos, af, gd⟩ a K := h
theorem ux_indexAddr {d : Option Tmp} {t : TypeId} {x y : Operand} (h : Uf P X w ⟨d, .indexAddr t x y, ty, pos, af, gd⟩ a K) : Uf P X w ⟨d, .indexAddr t x y, ty, pos, af, gd⟩ a K := h
theorem ux_extract {d : Option Tmp} {x : Operand} {k : Nat} (h : Uf P X w ⟨d, .extract x k, ty, pos, af, gd⟩ a K) : Uf P X w ⟨d, .extract x k, ty, pos, af, gd⟩ a K := h
theorem ux_len {d : Option Tmp} {us : Array Operand} {tt : Array TypeId} (h : Uf P X w ⟨d, .call { callee := .builtin .len, args := us, argTypes := tt }, ty, pos, af, gd⟩ a K) : Uf P X w ⟨d, .call { callee := .builtin .len, args := us, argTypes := tt }, ty, pos, af, gd⟩ a K := h
theorem ux_call {d : Option Tmp} {x : Operand} {us : Array Operand} {tt : Array TypeId} (h : Uf P X w ⟨d, .call { callee := .value x, args := us, argTypes := tt }, ty, pos, af, gd⟩ a K) : Uf P X w ⟨d, .call { callee := .value x, args := us, argTypes := tt }, ty, pos, af, gd⟩ a K := h
theorem ux_slice {d : Option Tmp} {t : TypeId} {x : Operand} {lo hi mx : Option Operand} (h : Uf P X w ⟨d, .slice t x lo hi mx, ty, pos, af, gd⟩ a K) : Uf P X w ⟨d, .slice t x lo hi mx, ty, pos, af, gd⟩ a K := h
theorem ux_eql {d : Option Tmp} {t t2 : TypeId} {x y : Operand} (h : Uf P X w ⟨d, .binOp .eql t x y t2, ty, pos, af, gd⟩ a K) : Uf P X w ⟨d, .binOp .eql t x y t2, ty, pos, af, gd⟩ a K := h
theorem ux_neq {d : Option Tmp} {t t2 : TypeId} {x y : Operand} (h : Uf P X w ⟨d, .binOp .neq t x y t2, ty, pos, af, gd⟩ a K) : Uf P X w ⟨d, .binOp .neq t x y t2, ty, pos, af, gd⟩ a K := h
theorem ux_lss {d : Option Tmp} {t t2 : TypeId} {x y : Operand} (h : Uf P X w ⟨d, .binOp .lss t x y t2, ty, pos, af, gd⟩ a K) : Uf P X w ⟨d, .binOp .lss t x y t2, ty, pos, af, gd⟩ a K := h
theorem ux_leq {d : Option Tmp} {t t2 : TypeId} {x y : Operand} (h : Uf P X w ⟨d, .binOp .leq t x y t2, ty, pos, af, gd⟩ a K) : Uf P X w ⟨d, .binOp .leq t x y t2, ty, pos, af, gd⟩ a K := h
theorem ux_gtr {d : Option Tmp} {t t2 : TypeId} {x y : Operand} (h : Uf P X w ⟨d, .binOp .gtr t x y t2, ty, pos, af, gd⟩ a K) : Uf P X w ⟨d, .binOp .gtr t x y t2, ty, pos, af, gd⟩ a K := h
theorem ux_geq {d : Option Tmp} {t t2 : TypeId} {x y : Operand} (h : Uf P X w ⟨d, .binOp .geq t x y t2, ty, pos, af, gd⟩ a K) : Uf P X w ⟨d, .binOp .geq t x y t2, ty, pos, af, gd⟩ a K := h
theorem ux_add {d : Option Tmp} {t t2 : TypeId} {x y : Operand} (h : Uf P X w ⟨d, .binOp .add t x y t2, ty, pos, af, gd⟩ a K) : Uf P X w ⟨d, .binOp .add t x y t2, ty, pos, af, gd⟩ a K := h
theorem ux_sub {d : Option Tmp} {t t2 : TypeId} {x y : Operand} (h : Uf P X w ⟨d, .binOp .sub t x y t2, ty, pos, af, gd⟩ a K) : Uf P X w ⟨d, .binOp .sub t x y t2, ty, pos, af, gd⟩ a K := h
theorem ux_mul {d : Option Tmp} {t t2 : TypeId} {x y : Operand} (h : Uf P X w ⟨d, .binOp .mul t x y t2, ty, pos, af, gd⟩ a K) : Uf P X w ⟨d, .binOp .mul t x y t2, ty, pos, af, gd⟩ a K := h
theorem ux_and {d : Option Tmp} {t t2 : TypeId} {x y : Operand} (h : Uf P X w ⟨d, .binOp .and t x y t2, ty, pos, af, gd⟩ a K) : Uf P X w ⟨d, .binOp .and t x y t2, ty, pos, af, gd⟩ a K := h
theorem ux_or {d : Option Tmp} {t t2 : TypeId} {x y : Operand} (h : Uf P X w ⟨d, .binOp .or t x y t2, ty, pos, af, gd⟩ a K) : Uf P X w ⟨d, .binOp .or t x y t2, ty, pos, af, gd⟩ a K := h
theorem ux_xor {d : Option Tmp} {t t2 : TypeId} {x y : Operand} (h : Uf P X w ⟨d, .binOp .xor t x y t2, ty, pos, af, gd⟩ a K) : Uf P X w ⟨d, .binOp .xor t x y t2, ty, pos, af, gd⟩ a K := h
theorem ux_andNot {d : Option Tmp} {t t2 : TypeId} {x y : Operand} (h : Uf P X w ⟨d, .binOp .andNot t x y t2, ty, pos, af, gd⟩ a K) : Uf P X w ⟨d, .binOp .andNot t x y t2, ty, pos, af, gd⟩ a K := h
theorem ux_quo {d : Option Tmp} {t t2 : TypeId} {x y : Operand} (h : Uf P X w ⟨d, .binOp .quo t x y t2, ty, pos, af, gd⟩ a K) : Uf P X w ⟨d, .binOp .quo t x y t2, ty, pos, af, gd⟩ a K := h
theorem ux_rem {d : Option Tmp} {t t2 : TypeId} {x y : Operand} (h : Uf P X w ⟨d, .binOp .rem t x y t2, ty, pos, af, gd⟩ a K) : Uf P X w ⟨d, .binOp .rem t x y t2, ty, pos, af, gd⟩ a K := h
theorem ux_shl {d : Option Tmp} {t t2 : TypeId} {x y : Operand} (h : Uf P X w ⟨d, .binOp .shl t x y t2, ty, pos, af, gd⟩ a K) : Uf P X w ⟨d, .binOp .shl t x y t2, ty, pos, af, gd⟩ a K := h
theorem ux_shr {d : Option Tmp} {t t2 : TypeId} {x y : Operand} (h : Uf P X w ⟨d, .binOp .shr t x y t2, ty, pos, af, gd⟩ a K) : Uf P X w ⟨d, .binOp .shr t x y t2, ty, pos, af, gd⟩ a K := h
theorem rx_loadAll [S : Seat P tab fl] {t et : TypeId} {x : Operand} {g : Nat} {cs : List Value} {y : Ty} (T : Tm a n ts) (F : MemE E c m bs w) (hx : ev ts x = some (.pointer (some ⟨g, 0, none⟩)) := by exact rfl)
    (hy : getY tab t = some y := by exact rfl) (ha : y.agg = true := by exact rfl) (hk : Take bs g cs et bs' := by repeat (first | exact Go.Proofs.Ytniopkoaplkpkaa.Sy.Take.here | apply Go.Proofs.Ytniopkoaplkpkaa.Sy.Take.there)) (hl : cs.length = y.size := by exact rfl) (hX : g ∉ X := by first | exact List.not_mem_nil | (have ND := Go.Proofs.Ytniopkoaplkpkaa.Sy.MemE.nodup (by assumption); simp at ND ⊢; omega)) : ∀ w', BelowX X w.heap.size w w' → Runs P a (.load t x) ty w' (.agg cs.toArray) :=
  fun w' hb => runs_loadAgg T hx hy ha hl (range_of (F.belowX hb hk hX) (by simp))
theorem rx_loadOne [S : Seat P tab fl] {t et : TypeId} {x : Operand} {g o : Nat} {cs : List Value} {y : Ty} {v : Value} (T : Tm a n ts) (F : MemE E c m bs w) (hx : ev ts x = some (.pointer (some ⟨g, o, none⟩)) := by exact rfl)
    (hy : getY tab t = some y := by exact rfl) (ha : y.agg = false := by exact rfl) (hk : Take bs g cs et bs' := by repeat (first | exact Go.Proofs.Ytniopkoaplkpkaa.Sy.Take.here | apply Go.Proofs.Ytniopkoaplkpkaa.Sy.Take.there)) (hc : cs[o]? = some v := by exact rfl) (hX : g ∉ X := by first | exact List.not_mem_nil | (have ND := Go.Proofs.Ytniopkoaplkpkaa.Sy.MemE.nodup (by assumption); simp at ND ⊢; omega)) : ∀ w', BelowX X w.heap.size w w' → Runs P a (.load t x) ty w' v :=
  fun w' hb => runs_loadOne T hx hy ha (by simp [World.cell?, F.belowX hb hk hX, hc])
theorem rx_oldOne [S : Seat P tab fl] {t : TypeId} {x : Operand} {g o : Nat} {y : Ty} {v : Value} (T : Tm a n ts) (F : MemE E c m bs w) (hx : ev ts x = some (.pointer (some ⟨g, o, none⟩)) := by exact rfl)
    (hy : getY tab t = some y := by exact rfl) (ha : y.agg = false := by exact rfl) (hc : m.cell? ⟨g, o, none⟩ = some v := by first | assumption | exact Go.Proofs.Ytniopkoaplkpkaa.Sy.At.get0 (by repeat (first | assumption | apply Go.Proofs.Ytniopkoaplkpkaa.Sy.At.shift)) (by exact rfl)) (hX : ∀ x ∈ X, x ∈ bs.map Blk.adr := by simp) : ∀ w', BelowX X w.heap.size w w' → Runs P a (.load t x) ty w' v :=
  fun w' hb => runs_loadOne T hx hy ha (F.subX hb hX _ _ hc)
theorem rx_oldAgg [S : Seat P tab fl] {t : TypeId} {x : Operand} {g o : Nat} {y : Ty} {vs : List Value} (T : Tm a n ts) (F : MemE E c m bs w) (hx : ev ts x = some (.pointer (some ⟨g, o, none⟩)) := by exact rfl)
    (hy : getY tab t = some y := by exact rfl) (ha : y.agg = true := by exact rfl) (hc : At m g o vs := by assumption) (hl : vs.length = y.size := by first | exact rfl | assumption) (hX : ∀ x ∈ X, x ∈ bs.map Blk.adr := by simp) : ∀ w', BelowX X w.heap.size w w' → Runs P a (.load t x) ty w' (.agg vs.toArray) :=
  fun w' hb => runs_loadAgg T hx hy ha hl (fun j v hj => F.subX hb hX _ _ (hc j v hj))
theorem sx_loadCut [S : Seat P tab fl] {d : Nat} {t et : TypeId} {x : Operand} {g o : Nat} {cs : List Value} {y : Ty} {k : Nat} (T : Tm a n ts) (F : MemE E c m bs w) (hd : Nat.blt d n = true := by exact rfl) (hx : ev ts x = some (.pointer (some ⟨g, o, none⟩)) := by exact rfl)
    (hy : getY tab t = some y := by exact rfl) (ha : y.agg = true := by exact rfl) (hs : y.size = k := by exact rfl) (hk : Take bs g cs et bs' := by repeat (first | exact Go.Proofs.Ytniopkoaplkpkaa.Sy.Take.here | apply Go.Proofs.Ytniopkoaplkpkaa.Sy.Take.there)) (hX : g ∉ X := by first | exact List.not_mem_nil | (have ND := Go.Proofs.Ytniopkoaplkpkaa.Sy.MemE.nodup (by assumption); simp at ND ⊢; omega))
    (h : cutK cs o k fun vs => ∀ a', Tm a' n ((d, .agg vs.toArray) :: ts) → K a') : Uf P X w ⟨some d, .load t x, ty, pos, af, gd⟩ a K := by
  obtain ⟨vs, h1, h2, h3⟩ := cutK_spec h
  exact sx_val (fun w' hb => runs_loadAgg T hx hy ha (h1.trans hs.symm) (range_of (F.belowX hb hk hX) h2)) T hd h3
theorem sx_oldCut [S : Seat P tab fl] {d : Nat} {t : TypeId} {x : Operand} {g o : Nat} {y : Ty} {cs : List Value} {k : Nat} (T : Tm a n ts) (F : MemE E c m bs w) (hd : Nat.blt d n = true := by exact rfl) (hx : ev ts x = some (.pointer (some ⟨g, o, none⟩)) := by exact rfl)
    (hy : getY tab t = some y := by exact rfl) (ha : y.agg = true := by exact rfl) (hs : y.size = k := by exact rfl) (hA : At m g o cs := by repeat (first | assumption | apply Go.Proofs.Ytniopkoaplkpkaa.Sy.At.shift)) (hX : ∀ x ∈ X, x ∈ bs.map Blk.adr := by simp)
    (h : cutK cs 0 k fun vs => ∀ a', Tm a' n ((d, .agg vs.toArray) :: ts) → K a') : Uf P X w ⟨some d, .load t x, ty, pos, af, gd⟩ a K := by
  obtain ⟨vs, h1, h2, h3⟩ := cutK_spec h
  exact sx_val (fun w' hb => runs_loadAgg T hx hy ha (h1.trans hs.symm) (fun j v hj => F.subX hb hX _ _ (hA j v (by simpa using h2 j v hj)))) T hd h3
theorem sx_build [S : Seat P tab fl] {d : Nat} {t : TypeId} {parts : List (Nat × Operand)} {ag sl sr : Bool} {sz by' : Nat} {z : List Value} {offs szs : List Nat} {el : Nat × Nat} {kd : Option IntKind} (T : Tm a n ts) (hd : Nat.blt d n = true := by exact rfl) (hy : getY tab t = some ⟨ag, sz, by', z, offs, szs, true, el, kd, sl, sr⟩ := by exact rfl)
    (h : fillK ts offs szs parts z fun cs => ∀ a', Tm a' n ((d, .agg cs.toArray) :: ts) → K a') : Uf P X w ⟨some d, .build t parts.toArray, ty, pos, af, gd⟩ a K := by
  obtain ⟨cs, h1, h2⟩ := runs_build (P := P) T hy rfl rfl rfl rfl h
  exact sx_run (fun w' => h1 _ _) T hd h2

/-! one operation alone: the list's laws serve -/
def AtK (K : Act → World → Prop) (Q : Exit → Act → World → Prop) : Exit → Act → World → Prop
  | .normal, a, w => K a w
  | .outgrown, _, _ => False
  | e, a, w => Q e a w
theorem one_op {o : Oper} {K : Act → World → Prop} (hg : o.guard = none) (h : wpList P ops (AtK K Q) [o] a w) : o.wp P a w K Q := by
  unfold wpList at h
  rw [if_pos (by simp [Region.wanted, hg])] at h
  rcases h with h | ⟨_, a', w', h⟩
  · exact wp_exits (Q' := AtK K Q) (fun c a w h => h) (fun a w h => False.elim h) h
  · exact h.elim
theorem atK {K : Act → World → Prop} (h : K a w) : wpList P ops (AtK K Q) [] a w := h
theorem sx_hole {o : Oper} (hi' : nthO ops i = some o) (hg : o.guard = none)
    (h : ∀ (K : Act → World → Prop), (∀ a' w', BelowX X w.heap.size w w' → wpUx P X ops Q r w'.heap.size w' a' w' → K a' w') → wpList P ops (AtK K Q) [o] a w) : wpUx P X ops Q (.h i r) w.heap.size w a w := by
  have hi := nthO_spec hi'
  unfold wpUx wpUy
  simp only [hi]
  rw [if_pos (by simp [Region.wanted, hg])]
  exact one_op hg (h _ fun a' w' h1 h2 => ⟨X, w'.heap.size, h1.size, fun _ h => .inl h, h1, h2⟩)
/-- the same, blocks of its own may be written from now on -/
theorem sx_holeX {o : Oper} (hi' : nthO ops i = some o) (hg : o.guard = none)
    (h : ∀ (K : Act → World → Prop), (∀ X' a' w', (∀ k, k ∈ X' → k ∈ X ∨ w.heap.size ≤ k) → BelowX X w.heap.size w w' → wpUx P X' ops Q r w'.heap.size w' a' w' → K a' w') → wpList P ops (AtK K Q) [o] a w) : wpUx P X ops Q (.h i r) w.heap.size w a w := by
  have hi := nthO_spec hi'
  unfold wpUx wpUy
  simp only [hi]
  rw [if_pos (by simp [Region.wanted, hg])]
  exact one_op hg (h _ fun X' a' w' h0 h1 h2 => ⟨X', w'.heap.size, h1.size, h0, h1, h2⟩)
theorem sx_tail {o : Oper} {t : List Nat} (hi' : nthO ops i = some o := by exact rfl) (hg : o.guard = none := by exact rfl)
    (h : ∀ (K : Act → World → Prop), (∀ a' w', wpTail P ops Q t a' w' → K a' w') → wpList P ops (AtK K Q) [o] a w) : wpTail P ops Q (i :: t) a w := by
  have hi := nthO_spec hi'
  unfold wpTail
  simp only [hi]
  rw [if_pos (by simp [Region.wanted, hg])]
  exact one_op hg (h _ fun a' w' h => h)
theorem onlyAt {g : Nat} {w w' : World} (h : OnlyAt g w w') (hx : g ∈ X) (B : Nat) : BelowX X B w w' := ⟨h.os, h.tape, h.output, Nat.le_of_eq h.size.symm, fun k _ hk => h.block k (fun e => hk (e ▸ hx))⟩
theorem sx_stores [S : Seat P tab fl] {t et : TypeId} {x z : Operand} {g o : Nat} {cs vs : List Value} {v : Value} {y : Ty} (hi' : nthO ops i = some ⟨none, .store t x z, ty, pos, af, none⟩) (T : Tm a n ts) (F : MemE E c m bs w) (hx : ev ts x = some (.pointer (some ⟨g, o, none⟩))) (hX : g ∈ X) (hz : ev ts z = some v) (hv : v.cells = vs.toArray)
    (h1 : vs.all (·.oneCell') = true) (hy : getY tab t = some y) (hl : vs.length = y.size) (hk : Take bs g cs et bs')
    (h : setK cs o vs fun cs' => ∀ a' w', Tm a' n ts → MemE E c m (⟨g, cs', et⟩ :: bs') w' → wpUx P X ops Q r w'.heap.size w' a' w') : wpUx P X ops Q (.h i r) w.heap.size w a w :=
  sx_hole hi' rfl fun K hK => st_storesB T F hx hz hv h1 hy hl hk (setK_mono (fun x hx a' w' h1 h2 h3 => atK (hK _ _ (onlyAt h3 hX _) (hx a' w' h1 h2))) h)
theorem sx_storeOne [S : Seat P tab fl] {t et : TypeId} {x z : Operand} {g o : Nat} {cs : List Value} {v : Value} {y : Ty} (hi' : nthO ops i = some ⟨none, .store t x z, ty, pos, af, none⟩ := by exact rfl) (T : Tm a n ts) (F : MemE E c m bs w) (hx : ev ts x = some (.pointer (some ⟨g, o, none⟩)) := by exact rfl) (hX : g ∈ X := by simp) (hz : ev ts z = some v := by exact rfl) (h1 : v.oneCell' = true := by exact rfl)
    (hy : getY tab t = some y := by exact rfl) (hl : y.size = 1 := by exact rfl) (hk : Take bs g cs et bs' := by repeat (first | exact Go.Proofs.Ytniopkoaplkpkaa.Sy.Take.here | apply Go.Proofs.Ytniopkoaplkpkaa.Sy.Take.there))
    (h : setK cs o [v] fun cs' => ∀ a' w', Tm a' n ts → MemE E c m (⟨g, cs', et⟩ :: bs') w' → wpUx P X ops Q r w'.heap.size w' a' w') : wpUx P X ops Q (.h i r) w.heap.size w a w :=
  sx_stores hi' T F hx hX hz (by cases v <;> simp_all [Value.cells, Value.oneCell']) (by simp [h1]) hy (by simp [hl]) hk h
theorem sx_storeAgg [S : Seat P tab fl] {t et : TypeId} {x z : Operand} {g o : Nat} {cs vs : List Value} {y : Ty} (hi' : nthO ops i = some ⟨none, .store t x z, ty, pos, af, none⟩ := by exact rfl) (T : Tm a n ts) (F : MemE E c m bs w) (hx : ev ts x = some (.pointer (some ⟨g, o, none⟩)) := by exact rfl) (hX : g ∈ X := by simp) (hz : ev ts z = some (.agg vs.toArray) := by exact rfl) (h1 : vs.all (·.oneCell') = true := by exact rfl)
    (hy : getY tab t = some y := by exact rfl) (hl : vs.length = y.size := by exact rfl) (hk : Take bs g cs et bs' := by repeat (first | exact Go.Proofs.Ytniopkoaplkpkaa.Sy.Take.here | apply Go.Proofs.Ytniopkoaplkpkaa.Sy.Take.there))
    (h : setK cs o vs fun cs' => ∀ a' w', Tm a' n ts → MemE E c m (⟨g, cs', et⟩ :: bs') w' → wpUx P X ops Q r w'.heap.size w' a' w') : wpUx P X ops Q (.h i r) w.heap.size w a w :=
  sx_stores hi' T F hx hX hz rfl h1 hy hl hk h
theorem sx_storeAll [S : Seat P tab fl] {t et : TypeId} {x z : Operand} {g : Nat} {cs vs : List Value} {y : Ty} (hi' : nthO ops i = some ⟨none, .store t x z, ty, pos, af, none⟩ := by exact rfl) (T : Tm a n ts) (F : MemE E c m bs w) (hx : ev ts x = some (.pointer (some ⟨g, 0, none⟩)) := by exact rfl) (hX : g ∈ X := by simp) (hz : ev ts z = some (.agg vs.toArray) := by exact rfl) (h1 : vs.all (·.oneCell') = true := by exact rfl)
    (hy : getY tab t = some y := by exact rfl) (hl : vs.length = y.size := by exact rfl) (hk : Take bs g cs et bs' := by repeat (first | exact Go.Proofs.Ytniopkoaplkpkaa.Sy.Take.here | apply Go.Proofs.Ytniopkoaplkpkaa.Sy.Take.there)) (hc : cs.length = vs.length := by exact rfl)
    (h : ∀ a' w', Tm a' n ts → MemE E c m (⟨g, vs, et⟩ :: bs') w' → wpUx P X ops Q r w'.heap.size w' a' w') : wpUx P X ops Q (.h i r) w.heap.size w a w :=
  sx_stores hi' T F hx hX hz rfl h1 hy hl hk (setK_all _ _ _ hc h)
theorem sx_new {d : Nat} {op : Op} {cs : List Value} {t : TypeId} (hi' : nthO ops i = some ⟨some d, op, ty, pos, af, none⟩ := by exact rfl) (T : Tm a n ts) (F : MemE E c m bs w) (hd : Nat.blt d n = true := by exact rfl)
    (hr : ∀ d' pos af gd, (execOp a.eval ⟨d', op, ty, pos, af, gd⟩).run P w = .ok (.value (.pointer (some ⟨w.heap.size, 0, none⟩))) (w.alloc (.cells cs.toArray t (0, 0))))
    (h : ∀ a' g w', Tm a' n ((d, .pointer (some ⟨g, 0, none⟩)) :: ts) → MemE E c m (⟨g, cs, t⟩ :: bs) w' → wpUx P X ops Q r w'.heap.size w' a' w') : wpUx P X ops Q (.h i r) w.heap.size w a w :=
  sx_hole hi' rfl fun K hK => st_newB T F hd hr fun a' g w' h1 h2 h3 => atK (hK _ _ (belowX h3) (h a' g w' h1 h2))
theorem sx_newX {d : Nat} {op : Op} {cs : List Value} {t : TypeId} (hi' : nthO ops i = some ⟨some d, op, ty, pos, af, none⟩ := by exact rfl) (T : Tm a n ts) (F : MemE E c m bs w) (hd : Nat.blt d n = true := by exact rfl)
    (hr : ∀ d' pos af gd, (execOp a.eval ⟨d', op, ty, pos, af, gd⟩).run P w = .ok (.value (.pointer (some ⟨w.heap.size, 0, none⟩))) (w.alloc (.cells cs.toArray t (0, 0))))
    (h : ∀ a' g w', Tm a' n ((d, .pointer (some ⟨g, 0, none⟩)) :: ts) → MemE E c m (⟨g, cs, t⟩ :: bs) w' → wpUx P (g :: X) ops Q r w'.heap.size w' a' w') : wpUx P X ops Q (.h i r) w.heap.size w a w :=
  sx_holeX hi' rfl fun K hK => st_newB' T F hd hr fun a' w' h1 h2 h3 => atK (hK (w.heap.size :: X) _ _ (fun k hk => by
    rcases List.mem_cons.1 hk with rfl | hk
    · exact .inr (Nat.le_refl _)
    · exact .inl hk) (belowX h3) (h a' _ w' h1 h2))
/-- a call that hands back a known value -/
theorem sx_callV0 [S : Seat P tab fl] {d : Nat} {f : FuncId} {args : List Operand} {ats : Array TypeId} {vs : List Value} {v : Value} (hi' : nthO ops i = some ⟨some d, .call { callee := .value (.func f), args := args.toArray, argTypes := ats }, ty, pos, af, none⟩) (T : Tm a n ts) (F : MemE E c m bs w) (hfl : fl.contains f = true := by exact rfl) (ha : evs ts args = some vs := by exact rfl) (hd : Nat.blt d n = true := by exact rfl)
    (hc : Calls P f vs.toArray w (RetV w v)) (h : ∀ a' w', Tm a' n ((d, v) :: ts) → MemE E c m bs w' → wpUx P X ops Q r w'.heap.size w' a' w') :
    wpUx P X ops Q (.h i r) w.heap.size w a w :=
  sx_hole hi' rfl fun K hK => st_call (R := RetV w v) (us := []) (ks := []) T rfl hfl ha hd (by simpa using hc) fun e w' ⟨he, hb⟩ => ⟨v, he, fun a' T' => atK (hK _ _ (belowX hb) (h a' w' T' (F.below hb)))⟩
theorem sx_callM0 [S : Seat P tab fl] {d : Nat} {f : FuncId} {args : List Operand} {ats : Array TypeId} {vs : List Value} {R : World → Value → Prop} (hi' : nthO ops i = some ⟨some d, .call { callee := .value (.func f), args := args.toArray, argTypes := ats }, ty, pos, af, none⟩) (T : Tm a n ts) (F : MemE E c m bs w) (hfl : fl.contains f = true := by exact rfl) (ha : evs ts args = some vs := by exact rfl) (hd : Nat.blt d n = true := by exact rfl)
    (hc : Calls P f vs.toArray w (RetM m w R)) (h : ∀ v m' a' w', R m' v → Sub m m' → Tm a' n ((d, v) :: ts) → MemE E c m' bs w' → wpUx P X ops Q r w'.heap.size w' a' w') :
    wpUx P X ops Q (.h i r) w.heap.size w a w :=
  sx_hole hi' rfl fun K hK => st_call (R := RetM m w R) (us := []) (ks := []) T rfl hfl ha hd (by simpa using hc) fun e w' ⟨v, m', he, hb, h1, h2, h3, hr⟩ => ⟨v, he, fun a' T' => atK (hK _ _ (belowX hb) (h v m' a' w' hr h1 T' (F.after hb h1 h2 h3)))⟩
theorem sx_callV [S : Seat P tab fl] {d : Nat} {fx : Operand} {f : FuncId} {args : List Operand} {ats : Array TypeId} {us vs ks : List Value} {v : Value} (hi' : nthO ops i = some ⟨some d, .call { callee := .value fx, args := args.toArray, argTypes := ats }, ty, pos, af, none⟩) (T : Tm a n ts) (F : MemE E c m bs w) (hf : ev ts fx = some (.func (.func f) us.toArray ks.toArray)) (hfl : fl.contains f = true) (ha : evs ts args = some vs) (hd : Nat.blt d n = true)
    (hc : Calls P f (us ++ vs ++ ks).toArray w (RetV w v)) (h : ∀ a' w', Tm a' n ((d, v) :: ts) → MemE E c m bs w' → wpUx P X ops Q r w'.heap.size w' a' w') :
    wpUx P X ops Q (.h i r) w.heap.size w a w :=
  sx_hole hi' rfl fun K hK => st_call T hf hfl ha hd hc fun e w' ⟨he, hb⟩ => ⟨v, he, fun a' T' => atK (hK _ _ (belowX hb) (h a' w' T' (F.below hb)))⟩
theorem sx_callM [S : Seat P tab fl] {d : Nat} {fx : Operand} {f : FuncId} {args : List Operand} {ats : Array TypeId} {us vs ks : List Value} {R : World → Value → Prop} (hi' : nthO ops i = some ⟨some d, .call { callee := .value fx, args := args.toArray, argTypes := ats }, ty, pos, af, none⟩) (T : Tm a n ts) (F : MemE E c m bs w) (hf : ev ts fx = some (.func (.func f) us.toArray ks.toArray)) (hfl : fl.contains f = true) (ha : evs ts args = some vs) (hd : Nat.blt d n = true)
    (hc : Calls P f (us ++ vs ++ ks).toArray w (RetM m w R)) (h : ∀ v m' a' w', R m' v → Sub m m' → Tm a' n ((d, v) :: ts) → MemE E c m' bs w' → wpUx P X ops Q r w'.heap.size w' a' w') :
    wpUx P X ops Q (.h i r) w.heap.size w a w :=
  sx_hole hi' rfl fun K hK => st_call T hf hfl ha hd hc fun e w' ⟨v, m', he, hb, h1, h2, h3, hr⟩ => ⟨v, he, fun a' T' => atK (hK _ _ (belowX hb) (h v m' a' w' hr h1 T' (F.after hb h1 h2 h3)))⟩
end
end Sy
end Go.Proofs.Ytniopkoaplkpkaa
namespace Go.Proofs.Ytniopkoaplkpkaa
open Go.RowKit
set_option linter.unusedVariables false
namespace Sy
/-- some of the blocks, in whatever order -/
inductive Sel : List Blk → List Blk → Prop
  | nil {bs : List Blk} : Sel bs []
  | cons {bs r bs' : List Blk} {g : Nat} {cs : List Value} {t : TypeId} (h : Take bs g cs t r) (k : Sel r bs') : Sel bs (⟨g, cs, t⟩ :: bs')
theorem MemE.sel {E : Ext} {c : Cx} {m w : World} {bs bs' : List Blk} (F : MemE E c m bs w) (h : Sel bs bs') : MemE E c m bs' w := by
  have key : ∃ r, bs.Perm (bs' ++ r) := by
    clear F
    induction h with
    | nil => exact ⟨_, .refl _⟩
    | cons h _ ih =>
      obtain ⟨q, hq⟩ := ih
      exact ⟨q, h.perm.trans (hq.cons _)⟩
  obtain ⟨r, hr⟩ := key
  have F' := F.perm hr
  exact ⟨F'.kept, F'.sub0, F'.sub, F'.fresh, fun b hb => F'.own b (List.mem_append_left _ hb), by have := F'.nodup; rw [List.map_append, List.nodup_append] at this; exact this.1, F'.ext, fun k hk => ⟨(F'.loose k hk).1, fun hm => (F'.loose k hk).2.1 (by rw [List.map_append]; exact List.mem_append_left _ hm), (F'.loose k hk).2.2⟩⟩

/-- the end of a round -/
theorem handed {J I : Nat → Act → World → Prop} {n k : Nat} {a : Act} {w : World} (hJ : ∀ k a' w', I k a' w' → J k a' w') (hk : k < n) (h : I k a w) : Handed J n a w := ⟨k, hk, hJ _ _ _ h⟩

/-! loops whose relation names addresses that the frame finds -/
section
variable {P : Program} {Q : Exit → Act → World → Prop} {a : Act} {w : World} {c : Code}
theorem loop1 {g1 : Nat} (I : Nat → Nat → Act → World → Prop) (n₀ : Nat) (h₀ : I g1 n₀ a w) (round : ∀ n a w, I g1 n a w → ∀ (J : Nat → Act → World → Prop) (K : Act → World → Prop), (∀ k a' w', I g1 k a' w' → J k a' w') → (∀ a' w', Handed J n a' w' → K a' w') → c.wp P (Exit.then K Q) a w) : (Code.loop c).wp P Q a w := wp_loop_ghost_k (I g1) n₀ h₀ round
theorem loop2 {g1 g2 : Nat} (I : Nat → Nat → Nat → Act → World → Prop) (n₀ : Nat) (h₀ : I g1 g2 n₀ a w) (round : ∀ n a w, I g1 g2 n a w → ∀ (J : Nat → Act → World → Prop) (K : Act → World → Prop), (∀ k a' w', I g1 g2 k a' w' → J k a' w') → (∀ a' w', Handed J n a' w' → K a' w') → c.wp P (Exit.then K Q) a w) : (Code.loop c).wp P Q a w := wp_loop_ghost_k (I g1 g2) n₀ h₀ round
theorem loop3 {g1 g2 g3 : Nat} (I : Nat → Nat → Nat → Nat → Act → World → Prop) (n₀ : Nat) (h₀ : I g1 g2 g3 n₀ a w) (round : ∀ n a w, I g1 g2 g3 n a w → ∀ (J : Nat → Act → World → Prop) (K : Act → World → Prop), (∀ k a' w', I g1 g2 g3 k a' w' → J k a' w') → (∀ a' w', Handed J n a' w' → K a' w') → c.wp P (Exit.then K Q) a w) : (Code.loop c).wp P Q a w := wp_loop_ghost_k (I g1 g2 g3) n₀ h₀ round
theorem loop4 {g1 g2 g3 g4 : Nat} (I : Nat → Nat → Nat → Nat → Nat → Act → World → Prop) (n₀ : Nat) (h₀ : I g1 g2 g3 g4 n₀ a w) (round : ∀ n a w, I g1 g2 g3 g4 n a w → ∀ (J : Nat → Act → World → Prop) (K : Act → World → Prop), (∀ k a' w', I g1 g2 g3 g4 k a' w' → J k a' w') → (∀ a' w', Handed J n a' w' → K a' w') → c.wp P (Exit.then K Q) a w) : (Code.loop c).wp P Q a w := wp_loop_ghost_k (I g1 g2 g3 g4) n₀ h₀ round
theorem loop5 {g1 g2 g3 g4 g5 : Nat} (I : Nat → Nat → Nat → Nat → Nat → Nat → Act → World → Prop) (n₀ : Nat) (h₀ : I g1 g2 g3 g4 g5 n₀ a w) (round : ∀ n a w, I g1 g2 g3 g4 g5 n a w → ∀ (J : Nat → Act → World → Prop) (K : Act → World → Prop), (∀ k a' w', I g1 g2 g3 g4 g5 k a' w' → J k a' w') → (∀ a' w', Handed J n a' w' → K a' w') → c.wp P (Exit.then K Q) a w) : (Code.loop c).wp P Q a w := wp_loop_ghost_k (I g1 g2 g3 g4 g5) n₀ h₀ round
theorem loop6 {g1 g2 g3 g4 g5 g6 : Nat} (I : Nat → Nat → Nat → Nat → Nat → Nat → Nat → Act → World → Prop) (n₀ : Nat) (h₀ : I g1 g2 g3 g4 g5 g6 n₀ a w) (round : ∀ n a w, I g1 g2 g3 g4 g5 g6 n a w → ∀ (J : Nat → Act → World → Prop) (K : Act → World → Prop), (∀ k a' w', I g1 g2 g3 g4 g5 g6 k a' w' → J k a' w') → (∀ a' w', Handed J n a' w' → K a' w') → c.wp P (Exit.then K Q) a w) : (Code.loop c).wp P Q a w := wp_loop_ghost_k (I g1 g2 g3 g4 g5 g6) n₀ h₀ round
end
theorem or_u64 {s p : Nat} (hs : s < 18446744073709551616) (hp : p < 18446744073709551616) : IntKind.u64.wrap ((BitVec.ofInt IntKind.u64.bits (s : Int) ||| BitVec.ofInt IntKind.u64.bits (p : Int)).toNat : Int) = ((s ||| p : Nat) : Int) := by
  rw [IntKind.wrap_u64]
  show (((BitVec.ofInt 64 (s : Int) ||| BitVec.ofInt 64 (p : Int)).toNat : Int) % 18446744073709551616) = _
  simp only [BitVec.ofInt_natCast, BitVec.toNat_or, BitVec.toNat_ofNat]
  rw [Nat.mod_eq_of_lt hs, Nat.mod_eq_of_lt hp]
  have : s ||| p < 2 ^ 64 := Nat.or_lt_two_pow hs hp
  omega
theorem or_lt {s p : Nat} (hs : s < 18446744073709551616) (hp : p < 18446744073709551616) : s ||| p < 18446744073709551616 := Nat.or_lt_two_pow (n := 64) hs hp
theorem andNot_u64 {s p : Nat} (hs : s < 18446744073709551616) (hp : p < 18446744073709551616) : (IntKind.u64.wrap ((BitVec.ofInt IntKind.u64.bits (s : Int) &&& ~~~BitVec.ofInt IntKind.u64.bits (p : Int)).toNat : Int) == 0) = decide (p ||| s = p) := by
  rw [IntKind.wrap_u64]
  show ((((BitVec.ofInt 64 (s : Int) &&& ~~~BitVec.ofInt 64 (p : Int)).toNat : Int) % 18446744073709551616) == 0) = _
  simp only [BitVec.ofInt_natCast]
  have hlt := (BitVec.ofNat 64 s &&& ~~~BitVec.ofNat 64 p).isLt
  have h1 : ((((BitVec.ofNat 64 s &&& ~~~BitVec.ofNat 64 p).toNat : Int) % 18446744073709551616) == 0) = decide ((BitVec.ofNat 64 s &&& ~~~BitVec.ofNat 64 p) = 0#64) := by
    rw [Bool.eq_iff_iff, beq_iff_eq, decide_eq_true_eq]
    constructor
    · intro h
      apply BitVec.eq_of_toNat_eq
      simp only [BitVec.toNat_ofNat]
      omega
    · intro h; rw [h]; rfl
  rw [h1, Bool.eq_iff_iff, decide_eq_true_eq, decide_eq_true_eq]
  have h2 : (p ||| s = p) ↔ (BitVec.ofNat 64 p ||| BitVec.ofNat 64 s) = BitVec.ofNat 64 p := by
    rw [← BitVec.toNat_inj]
    simp only [BitVec.toNat_or, BitVec.toNat_ofNat]
    rw [Nat.mod_eq_of_lt (show s < 2 ^ 64 from hs), Nat.mod_eq_of_lt (show p < 2 ^ 64 from hp)]
  rw [h2]
  generalize BitVec.ofNat 64 s = A
  generalize BitVec.ofNat 64 p = B
  constructor
  · intro h
    ext i hi
    have := congrArg (fun x => x[i]) h
    simp at this ⊢
    cases hA : A[i] <;> cases hB : B[i] <;> simp_all
  · intro h
    ext i hi
    have := congrArg (fun x => x[i]) h
    simp at this ⊢
    cases hA : A[i] <;> cases hB : B[i] <;> simp_all
theorem shl_u64 {n : Nat} (hn : n < 64) : IntKind.u64.wrap (1 * 2 ^ (min ((n : Int).toNat) IntKind.u64.bits)) = ((2 ^ n : Nat) : Int) := by
  have h2 : 2 ^ n < 2 ^ 64 := Nat.pow_lt_pow_right (by omega) hn
  rw [IntKind.wrap_u64, show min ((n : Int).toNat) IntKind.u64.bits = n from by simp [IntKind.bits]; omega]
  have : ((2 : Int) ^ n) = ((2 ^ n : Nat) : Int) := by simp
  rw [this]
  generalize 2 ^ n = x at *
  omega
theorem pow_lt {n : Nat} (hn : n < 64) : 2 ^ n < 18446744073709551616 := Nat.pow_lt_pow_right (by omega) hn
end Sy
end Go.Proofs.Ytniopkoaplkpkaa
namespace Go.Proofs.Ytniopkoaplkpkaa
open Go.RowKit
set_option linter.unusedVariables false
set_option linter.unusedSimpArgs false
namespace Sy
section
variable {P : Program} {tab : List (Nat × Ty)} {fl : List Nat} {a : Act} {n : Nat} {ts : List (Nat × Value)} {w : World} {ty : TypeId} {pos : String} {af : Array Edge}
  {ops : Array Oper} {Q : Exit → Act → World → Prop} {rest : List Oper} {E : Ext} {c : Cx} {m : World} {bs bs' : List Blk} {X : List Nat} {r : Ot} {i : Nat}
theorem sx_holeG {d : Nat} {op : Op} {u : Value} {j e : Nat} {b : Bool} (hi' : nthO ops i = some ⟨some d, op, ty, pos, af, some (j, b)⟩) (T : Tm a n ts) (hj : (ops[j]?).bind (·.dst) = some e) (hv : getT ts e = some u) (hy : (yv u == some b) = true)
    (h : ∀ (K : Act → World → Prop), (∀ a' w', BelowX X w.heap.size w w' → wpUx P X ops Q r w'.heap.size w' a' w' → K a' w') → wpList P ops (AtK K Q) [⟨some d, op, ty, pos, af, none⟩] a w) : wpUx P X ops Q (.h i r) w.heap.size w a w := by
  have hi := nthO_spec hi'
  have hw := wanted_t (ops := ops) (o := ⟨some d, op, ty, pos, af, some (j, b)⟩) rfl T hj hv
  rw [hy] at hw
  unfold wpUx wpUy
  simp only [hi]
  rw [if_pos hw]
  have key := one_op (o := ⟨some d, op, ty, pos, af, none⟩) rfl (h (fun a' w' => ∃ X' B', w.heap.size ≤ B' ∧ (∀ k, k ∈ X' → k ∈ X ∨ w.heap.size ≤ k) ∧ BelowX X w.heap.size w w' ∧ (wpUy P ops Q r) X' B' w' a' w') fun a' w' h1 h2 => ⟨X, w'.heap.size, h1.size, fun _ h => .inl h, h1, h2⟩)
  exact key
/-- a call that hands back a known value -/
theorem sx_callVG [S : Seat P tab fl] {d : Nat} {f : FuncId} {args : List Operand} {ats : Array TypeId} {vs : List Value} {v u : Value} {j e : Nat} {b : Bool} (hi' : nthO ops i = some ⟨some d, .call { callee := .value (.func f), args := args.toArray, argTypes := ats }, ty, pos, af, some (j, b)⟩) (T : Tm a n ts) (F : MemE E c m bs w) (hfl : fl.contains f = true := by exact rfl) (ha : evs ts args = some vs := by exact rfl) (hd : Nat.blt d n = true := by exact rfl)
    (hj : (ops[j]?).bind (·.dst) = some e := by exact rfl) (hv : getT ts e = some u := by exact rfl) (hy : (yv u == some b) = true := by exact rfl)
    (hc : Calls P f vs.toArray w (RetV w v)) (h : ∀ a' w', Tm a' n ((d, v) :: ts) → MemE E c m bs w' → wpUx P X ops Q r w'.heap.size w' a' w') :
    wpUx P X ops Q (.h i r) w.heap.size w a w :=
  sx_holeG hi' T hj hv hy fun K hK => st_call (R := RetV w v) (us := []) (ks := []) T rfl hfl ha hd (by simpa using hc) fun e w' ⟨he, hb⟩ => ⟨v, he, fun a' T' => atK (hK _ _ (belowX hb) (h a' w' T' (F.below hb)))⟩
end
end Sy
end Go.Proofs.Ytniopkoaplkpkaa
namespace Go.Proofs.Ytniopkoaplkpkaa
open Go.RowKit
theorem Sy.cutP {W I K : Act → World → Prop} (hK : ∀ a w, W a w → K a w) (h : ∀ a w, I a w → W a w) : ∀ a w, I a w → K a w := fun a w i => hK a w (h a w i)
end Go.Proofs.Ytniopkoaplkpkaa
