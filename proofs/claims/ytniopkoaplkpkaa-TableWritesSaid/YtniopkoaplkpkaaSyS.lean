/- Slices of the call's own that are appended to, and slice literals of one-cell elements, in the walk that names what it knows. Over any program. No condition. Slices of the call's own beside what else is known: begun, appended to by elements of many cells, stored to; slice literals of one struct. Over any program. No condition. A slice of the call's own, no more written to, counted to the memory that stands still. Over any program. No condition. Slices cut, and appends and slice literals in a drawn region. Over any program. No condition. Calls that write one block of the caller's, handed over by a pointer. Over any program. No condition. make of a slice of one-cell elements, in a drawn region. Over any program. No condition. -/
import Derived.Test.YtniopkoaplkpkaaSyD
import Derived.Great.BuildSlice
import Derived.Test.YtniopkoaplkpkaaSyC
import Derived.Laws.MakeOwn
namespace Go.Proofs.Ytniopkoaplkpkaa
open Go.RowKit
set_option linter.unusedVariables false
set_option linter.unusedSimpArgs false
namespace Sy

theorem blk_of {a : Option Addr} {n cap g : Nat} (h0 : cap ≠ 0) (ha : a = some ⟨g, 0, none⟩) : blk (.slice a n cap) = some g := by
  subst ha
  cases cap with
  | zero => exact (h0 rfl).elim
  | succ c => rfl
/-- a slice that the call owns -/
def SlE (e : TypeId) (size : Nat) (v : Value) (n : Nat) (xs : List Value) : Ext where
  S k := blk v = some k
  R w := Own w 0 e size v n xs
  stab w w' h hr := by
    obtain ⟨a, cap, rfl, hl, hn, hm, h'⟩ := hr
    refine ⟨a, cap, rfl, hl, hn, hm, ?_⟩
    rcases h' with h0 | ⟨g, cur, ha, hb, hg, hc, ht⟩
    · exact .inl h0
    · by_cases h0 : cap = 0
      · exact .inl h0
      · exact .inr ⟨g, cur, ha, hb, by rw [h g (blk_of h0 ha)]; exact hg, hc, ht⟩
  dom w k hr hk := (hr.lt k hk).2

section
variable {E : Ext} {c : Cx} {m w : World} {bs : List Blk}
theorem MemE.none_ (F : MemE E c m bs w) : Mem c m bs w := ⟨F.kept, F.sub0, F.sub, F.fresh, F.own, F.nodup, trivial, fun _ h => h.elim⟩
/-- a slice without room -/
theorem MemE.slice0 (F : MemE E c m bs w) (e : TypeId) (size : Nat) (a : Option Addr) : MemE (SlE e size (.slice a 0 0) 0 []) c m bs w :=
  ⟨F.kept, F.sub0, F.sub, F.fresh, F.own, F.nodup, Own.empty w 0 e size a, fun k hk => by
    have : blk (.slice a 0 0) = some k := hk
    cases a <;> simp [blk] at this⟩
theorem MemE.grown {e e' : TypeId} {size size' : Nat} {v v' : Value} {n n' : Nat} {xs xs' : List Value} (F : MemE (SlE e size v n xs) c m bs w) {w' : World} (hg : w.grownBy w' (blk v)) (ho : Own w' 0 e' size' v' n' xs') (hb : blk v' = blk v ∨ ∃ k, blk v' = some k ∧ w.heap.size ≤ k) : MemE (SlE e' size' v' n' xs') c m bs w' := by
  have hlt : ∀ b ∈ bs, b.adr < w.heap.size := fun b hb => F.lt hb
  have hne : ∀ b ∈ bs, some b.adr ≠ blk v := fun b hb hbv => (F.loose b.adr hbv.symm).2.1 (List.mem_map_of_mem hb)
  refine ⟨⟨hg.os.trans F.kept.os, hg.tape.trans F.kept.tape, hg.output.trans F.kept.output, Nat.le_trans F.kept.size hg.size, fun k hk hx => ?_⟩, F.sub0, fun p u hu => ?_, F.fresh, fun b hb => ⟨(F.own b hb).1, ?_, (F.own b hb).2.2⟩, F.nodup, ho, fun k hk => ?_⟩
  · rw [hg.block k (Nat.lt_of_lt_of_le hk F.kept.size) (fun h => by
      have := (F.loose k h.symm).1
      rcases this with h1 | h1
      · omega
      · exact hx h1)]
    exact F.kept.block k hk hx
  · have h1 := F.sub p u hu
    have hpl := World.block_lt_of_cell? w _ h1
    rw [World.cell?_of_block (w := w) (hg.block p.block hpl (fun h => by
      have := (F.loose p.block h.symm).2.2 p.off p.spot
      rw [hu] at this
      cases this))]
    exact h1
  · rw [hg.block _ (hlt b hb) (hne b hb)]; exact (F.own b hb).2.1
  · have hk' : blk v' = some k := hk
    rcases hb with hb | ⟨k2, hb, hk2⟩
    · exact F.loose k (hb.symm.trans hk')
    · rw [hb] at hk'
      simp at hk'
      subst hk'
      refine ⟨.inl (Nat.le_trans F.size hk2), fun hm => ?_, fun i s => cell_none F.sub hk2 i s⟩
      obtain ⟨b, hbm, he⟩ := List.mem_map.1 hm
      have := hlt b hbm
      omega
end

section
variable {E : Ext} {P : Program} {tab : List (Nat × Ty)} {fl : List Nat} {a : Act} {n : Nat} {ts : List (Nat × Value)} {w : World} {ty : TypeId} {pos : String} {af : Array Edge}
  {ops : Array Oper} {Q : Exit → Act → World → Prop} {rest : List Oper} {c : Cx} {m : World} {bs bs' : List Blk} {X : List Nat} {r : Ot} {i : Nat}

/-- bytes appended to what the call owns -/
theorem st_append [S : Seat P tab fl] {d : Nat} {s x : Operand} {t e : TypeId} {v : Value} {l : List UInt8} {ad : Option Addr} {k cp : Nat} {l2 : List UInt8} {y y2 : Ty} (T : Tm a n ts) (F : MemE (SlE e 1 v l.length (l.map bv)) c m bs w)
    (hnews : Bytes w ad k l2) (hsmall : l.length + l2.length ≤ 140737488355328) (hs : ev ts s = some v := by exact rfl) (hx : ev ts x = some (.slice ad k cp) := by exact rfl) (hd : Nat.blt d n = true := by exact rfl)
    (hy : getY tab t = some y := by exact rfl) (hel : y.elem = (e, 1) := by exact rfl) (hy2 : getY tab e = some y2 := by exact rfl) (hb1 : y2.bytes = 1 := by exact rfl) (hz1 : y2.zero.length = 1 := by exact rfl) (hsl : y.isSl = true := by exact rfl)
    (h : ∀ v' a' w', Tm a' n ((d, v') :: ts) → MemE (SlE e 1 v' (l ++ l2).length ((l ++ l2).map bv)) c m bs w' → wpList P ops Q rest a' w') :
    wpList P ops Q (⟨some d, .call { callee := .builtin .append, args := #[s, x], argTypes := #[t, t] }, ty, pos, af, none⟩ :: rest) a w := by
  obtain ⟨de, ii, z, hde, hinfo, hz, _, _, _, _, _, hel', _, hsl', _⟩ := tyOf_spec (S.ty _ _ hy)
  obtain ⟨de2, i2, z2, hde2, hinfo2, hz2, _, hsz2, hby2, hzz2, _⟩ := tyOf_spec (S.ty _ _ hy2)
  rw [hel] at hel'
  rw [hsl] at hsl'
  obtain ⟨rfl, _, hc2⟩ := hnews
  cases de with
  | slice el =>
    simp only at hel'
    cases hq : P.info? el with
    | none =>
      rw [hq] at hel'
      simp at hel'
    | some q =>
      rw [hq] at hel'
      simp only [Prod.mk.injEq] at hel'
      obtain ⟨rfl, hs1⟩ := hel'
      rw [hinfo2] at hq
      simp at hq
      subst hq
      have hzs : z2.cells.size = 1 := by rw [← Array.length_toList, ← hzz2]; exact hz1
      refine wpList_plain rfl fun K hK => wp_append_Own w s x t rfl 0 e i2 z2 1 1 hde hinfo2 hz2 hs1.symm (by omega) hzs (by omega) v l.length (l.map bv) (T.eval hs) F.ext ad l2.length cp (l2.map bv) (T.eval hx) (by simp) hc2 (bv_one l2) (by omega) (by omega) (Nat.zero_le _) ?_
      intro a' cap' w' h1 h2 h3
      have e1 : l.length + l2.length = (l ++ l2).length := by simp
      have e2 : l.map bv ++ l2.map bv = (l ++ l2).map bv := by simp
      rw [e2] at h1
      rw [e1] at h1 h3 ⊢
      exact hK _ _ (h _ _ _ (T.put (by simpa [Nat.blt_eq] using hd) _) (F.grown h2 h1 h3))
  | _ => simp at hsl'

/-- a slice literal of elements of one cell -/
theorem new_slice [S : Seat P tab fl] {t e : TypeId} {len : Nat} {parts : List (Nat × Operand)} {y ye : Ty} {z0 : Value} {K : List Value → Prop} (T : Tm a n ts) (hy : getY tab t = some y) (hel : y.elem = (e, 1)) (hsl : y.isSl = true) (hye : getY tab e = some ye) (hz0 : ye.zero = [z0]) (hlen : Nat.ble len 1000 = true)
    (h : fillK ts (List.range len) (List.replicate len 1) parts (List.replicate len z0) K) :
    ∃ cs, (∀ d' pos af gd, (execOp a.eval ⟨d', .buildSlice t len parts.toArray, ty, pos, af, gd⟩).run P w = .ok (.value (.slice (some ⟨w.heap.size, 0, none⟩) len len)) (w.alloc (.cells cs.toArray e (0, 0)))) ∧ K cs := by
  have hle : len ≤ 1000 := by simpa using hlen
  obtain ⟨de, ii, z, hde, hinfo, hz, _, _, _, _, _, hel', _, hsl', _⟩ := tyOf_spec (S.ty _ _ hy)
  obtain ⟨de2, i2, z2, hde2, hinfo2, hz2, _, hsz2, hby2, hzz2, _⟩ := tyOf_spec (S.ty _ _ hye)
  rw [hel] at hel'
  rw [hsl] at hsl'
  cases de with
  | slice el =>
    simp only at hel'
    cases hq : P.info? el with
    | none =>
      rw [hq] at hel'
      simp at hel'
    | some q =>
      rw [hq] at hel'
      simp only [Prod.mk.injEq] at hel'
      obtain ⟨rfl, hs1⟩ := hel'
      rw [hinfo2] at hq
      simp at hq
      subst hq
      obtain ⟨cs, hf, hk⟩ := fill_run T (List.range len) (List.replicate len 1) (fun i => some (i * 1, 1)) (fun i o s ho hs => by
        obtain ⟨h1, h2⟩ := List.getElem?_eq_some_iff.1 ho
        obtain ⟨h3, h4⟩ := List.getElem?_eq_some_iff.1 hs
        simp at h2 h4
        subst h2 h4
        simp) parts _ K h
      refine ⟨cs, fun d' pos af gd => ?_, hk⟩
      have hzc : z2.cells = #[z0] := by
        have : z2.cells.toList = [z0] := by rw [← hzz2]; exact hz0
        rw [← Array.toArray_toList (xs := z2.cells), this]
      by_cases hp : len = 0
      · subst hp
        have hf' : Instr.fill (fun i => some (i * 1, 1)) #[] (parts.map fun p => (p.1, a.eval p.2)) = some cs.toArray := hf
        simp only [Nat.mul_one] at hf'
        have e0 : (Array.map (fun _ => (default : Value)) (Array.range 0)) = #[] := by simp
        simp [execOp, Instr.buildSlice, run_underlying hde, sizeOf, typeInfo, hinfo2, ← hs1, newRow, newObj]
        rw [e0, hf']
        rfl
      · have hcs : ((Array.range (len * i2.size)).map (z2.cells[· % z2.cells.size]!)) = (List.replicate len z0).toArray := by
          rw [← hs1, Nat.mul_one, hzc]
          apply Array.ext
          · simp
          · intro i h1 h2
            simp [Nat.mod_one]
        have hr := run_buildSlice (P := P) w t e len (parts.map fun p => (p.1, a.eval p.2)).toArray cs.toArray i2 z2 hde hinfo2 hz2 (by rw [← hs1]; omega) (by rw [← hs1]; omega) (by rw [hcs, ← hs1]; exact hf)
        simp only [execOp, List.map_toArray, Sem.run_bind, hr, Result.andThen_ok, Sem.run_pure]
  | _ => simp at hsl'
theorem st_buildSlice [S : Seat P tab fl] {d : Nat} {t e : TypeId} {len : Nat} {parts : List (Nat × Operand)} {y ye : Ty} {z0 : Value} (T : Tm a n ts) (F : MemE E c m bs w) (hd : Nat.blt d n = true := by exact rfl) (hy : getY tab t = some y := by exact rfl) (hel : y.elem = (e, 1) := by exact rfl) (hsl : y.isSl = true := by exact rfl) (hye : getY tab e = some ye := by exact rfl) (hz0 : ye.zero = [z0] := by exact rfl) (hlen : Nat.ble len 1000 = true := by exact rfl)
    (h : fillK ts (List.range len) (List.replicate len 1) parts (List.replicate len z0) fun cs => ∀ a' g w', Tm a' n ((d, .slice (some ⟨g, 0, none⟩) len len) :: ts) → MemE E c m (⟨g, cs, e⟩ :: bs) w' → wpList P ops Q rest a' w') :
    wpList P ops Q (⟨some d, .buildSlice t len parts.toArray, ty, pos, af, none⟩ :: rest) a w := by
  obtain ⟨cs, h1, h2⟩ := new_slice (ty := ty) (w := w) (P := P) T hy hel hsl hye hz0 hlen h
  refine wpList_plain rfl fun K hK => ?_
  unfold Oper.wp
  rw [h1]
  exact hK _ _ (h2 _ _ _ (T.put (by simpa [Nat.blt_eq] using hd) _) (F.alloc cs e))
theorem sx_buildSlice [S : Seat P tab fl] {d : Nat} {t e : TypeId} {len : Nat} {parts : List (Nat × Operand)} {y ye : Ty} {z0 : Value} (hi' : nthO ops i = some ⟨some d, .buildSlice t len parts.toArray, ty, pos, af, none⟩ := by exact rfl) (T : Tm a n ts) (F : MemE E c m bs w) (hd : Nat.blt d n = true := by exact rfl) (hy : getY tab t = some y := by exact rfl) (hel : y.elem = (e, 1) := by exact rfl) (hsl : y.isSl = true := by exact rfl) (hye : getY tab e = some ye := by exact rfl) (hz0 : ye.zero = [z0] := by exact rfl) (hlen : Nat.ble len 1000 = true := by exact rfl)
    (h : fillK ts (List.range len) (List.replicate len 1) parts (List.replicate len z0) fun cs => ∀ a' g w', Tm a' n ((d, .slice (some ⟨g, 0, none⟩) len len) :: ts) → MemE E c m (⟨g, cs, e⟩ :: bs) w' → wpUx P X ops Q r w'.heap.size w' a' w') : wpUx P X ops Q (.h i r) w.heap.size w a w := by
  obtain ⟨cs, h1, h2⟩ := new_slice (ty := ty) (w := w) (P := P) T hy hel hsl hye hz0 hlen h
  refine sx_hole hi' rfl fun K hK => wpList_plain rfl fun K' hK' => ?_
  unfold Oper.wp
  rw [h1]
  exact hK' _ _ (atK (hK _ _ (belowX (balloc _ _)) (h2 _ _ _ (T.put (by simpa [Nat.blt_eq] using hd) _) (F.alloc cs e))))
end
end Sy
end Go.Proofs.Ytniopkoaplkpkaa
namespace Go.Proofs.Ytniopkoaplkpkaa
open Go.RowKit
set_option linter.unusedVariables false
set_option linter.unusedSimpArgs false
namespace Sy
/-- what E1 says, and a slice that the call owns -/
def SlA (E1 : Ext) (e : TypeId) (size : Nat) (v : Value) (n : Nat) (xs : List Value) : Ext where
  S k := E1.S k ∨ blk v = some k
  R w := E1.R w ∧ Own w 0 e size v n xs ∧ ∀ k, blk v = some k → ¬ E1.S k
  stab w w' h hr := ⟨E1.stab w w' (fun k hk => h k (.inl hk)) hr.1, (SlE e size v n xs).stab w w' (fun k hk => h k (.inr hk)) hr.2.1, hr.2.2⟩
  dom w k hr hk := by
    rcases hk with hk | hk
    · exact E1.dom w k hr.1 hk
    · exact (hr.2.1.lt k hk).2
theorem blk_zero (a : Option Addr) (k : Nat) : ¬ blk (.slice a 0 0) = some k := by cases a <;> simp [blk]
section
variable {E E1 : Ext} {c : Cx} {m w : World} {bs : List Blk}
theorem MemE.slA0 (F : MemE E c m bs w) (e : TypeId) (size : Nat) (a : Option Addr) : MemE (SlA E e size (.slice a 0 0) 0 []) c m bs w :=
  ⟨F.kept, F.sub0, F.sub, F.fresh, F.own, F.nodup, ⟨F.ext, Own.empty w 0 e size a, fun k hk => (blk_zero a k hk).elim⟩, fun k hk => by
    rcases hk with hk | hk
    · exact F.loose k hk
    · exact (blk_zero a k hk).elim⟩
/-- a slice that a call has handed back -/
theorem MemE.slAcall (F : MemE E c m bs w) {w' : World} (hb : Below w.heap.size w w') {e : TypeId} {size : Nat} {v : Value} {n : Nat} {xs : List Value} (ho : Own w' w.heap.size e size v n xs) : MemE (SlA E e size v n xs) c m bs w' := by
  have F' := F.below hb
  refine ⟨F'.kept, F'.sub0, F'.sub, F'.fresh, F'.own, F'.nodup, ⟨F'.ext, ho.base (Nat.zero_le _), fun k hk hs => ?_⟩, fun k hk => ?_⟩
  · have h1 := (ho.lt k hk).1
    have h2 := E.dom w k F.ext hs
    omega
  · rcases hk with hk | hk
    · exact F'.loose k hk
    · have h1 := (ho.lt k hk).1
      refine ⟨.inl (Nat.le_trans F.size h1), fun hm => ?_, fun i s => cell_none F.sub h1 i s⟩
      obtain ⟨b, hbm, he⟩ := List.mem_map.1 hm
      have := F.lt hbm
      omega
theorem MemE.grownA {e e' : TypeId} {size size' : Nat} {v v' : Value} {n n' : Nat} {xs xs' : List Value} (F : MemE (SlA E1 e size v n xs) c m bs w) {w' : World} (hg : w.grownBy w' (blk v)) (ho : Own w' 0 e' size' v' n' xs') (hb : blk v' = blk v ∨ ∃ k, blk v' = some k ∧ w.heap.size ≤ k) : MemE (SlA E1 e' size' v' n' xs') c m bs w' := by
  have hlt : ∀ b ∈ bs, b.adr < w.heap.size := fun b hb => F.lt hb
  have hne : ∀ b ∈ bs, some b.adr ≠ blk v := fun b hb hbv => (F.loose b.adr (.inr hbv.symm)).2.1 (List.mem_map_of_mem hb)
  have hE : ∀ k, E1.S k → w'.heap[k]? = w.heap[k]? := fun k hk => hg.block k (E1.dom w k F.ext.1 hk) (fun h => F.ext.2.2 k h.symm hk)
  refine ⟨⟨hg.os.trans F.kept.os, hg.tape.trans F.kept.tape, hg.output.trans F.kept.output, Nat.le_trans F.kept.size hg.size, fun k hk hx => ?_⟩, F.sub0, fun p u hu => ?_, F.fresh, fun b hb => ⟨(F.own b hb).1, ?_, (F.own b hb).2.2⟩, F.nodup, ⟨E1.stab w w' hE F.ext.1, ho, fun k hk hs => ?_⟩, fun k hk => ?_⟩
  · rw [hg.block k (Nat.lt_of_lt_of_le hk F.kept.size) (fun h => by
      have := (F.loose k (.inr h.symm)).1
      rcases this with h1 | h1
      · omega
      · exact hx h1)]
    exact F.kept.block k hk hx
  · have h1 := F.sub p u hu
    have hpl := World.block_lt_of_cell? w _ h1
    rw [World.cell?_of_block (w := w) (hg.block p.block hpl (fun h => by
      have := (F.loose p.block (.inr h.symm)).2.2 p.off p.spot
      rw [hu] at this
      cases this))]
    exact h1
  · rw [hg.block _ (hlt b hb) (hne b hb)]; exact (F.own b hb).2.1
  · rcases hb with hb | ⟨k2, hb, hk2⟩
    · exact F.ext.2.2 k (hb.symm.trans hk) hs
    · rw [hb] at hk
      simp at hk
      subst hk
      have := E1.dom w k2 F.ext.1 hs
      omega
  · rcases hk with hk | hk
    · exact F.loose k (.inl hk)
    rcases hb with hb | ⟨k2, hb, hk2⟩
    · exact F.loose k (.inr (hb.symm.trans hk))
    · rw [hb] at hk
      simp at hk
      subst hk
      refine ⟨.inl (Nat.le_trans F.size hk2), fun hm => ?_, fun i s => cell_none F.sub hk2 i s⟩
      obtain ⟨b, hbm, he⟩ := List.mem_map.1 hm
      have := hlt b hbm
      omega
end
section
variable {E E1 : Ext} {P : Program} {tab : List (Nat × Ty)} {fl : List Nat} {a : Act} {n : Nat} {ts : List (Nat × Value)} {w : World} {ty : TypeId} {pos : String} {af : Array Edge}
  {ops : Array Oper} {Q : Exit → Act → World → Prop} {rest : List Oper} {c : Cx} {m : World} {bs bs' : List Blk} {X : List Nat} {r : Ot} {i : Nat}
/-- elements of s cells appended to what the call owns -/
theorem st_appendC [S : Seat P tab fl] {d : Nat} {s x : Operand} {t e : TypeId} {v : Value} {k : Nat} {xs : List Value} {ad : Option Addr} {k2 cp : Nat} {news : List Value} {sz : Nat} {y y2 : Ty} (T : Tm a n ts) (F : MemE (SlA E1 e sz v k xs) c m bs w)
    (hnews : Cells w ad news) (hlen : news.length = k2 * sz) (hone : ∀ u ∈ news, u.oneCell' = true) (hs : ev ts s = some v := by exact rfl) (hx : ev ts x = some (.slice ad k2 cp) := by exact rfl) (hd : Nat.blt d n = true := by exact rfl)
    (hy : getY tab t = some y := by exact rfl) (hel : y.elem = (e, sz) := by exact rfl) (hy2 : getY tab e = some y2 := by exact rfl) (hz1 : y2.zero.length = sz := by exact rfl) (hsl : y.isSl = true := by exact rfl) (h0 : Nat.blt 0 sz = true := by exact rfl) (hb0 : Nat.blt 0 y2.bytes = true := by exact rfl)
    (hbytes : (k + k2) * y2.bytes ≤ 140737488355328)
    (h : ∀ ad' cap' a' w', Tm a' n ((d, .slice ad' (k + k2) cap') :: ts) → MemE (SlA E1 e sz (.slice ad' (k + k2) cap') (k + k2) (xs ++ news)) c m bs w' → wpList P ops Q rest a' w') :
    wpList P ops Q (⟨some d, .call { callee := .builtin .append, args := #[s, x], argTypes := #[t, t] }, ty, pos, af, none⟩ :: rest) a w := by
  have h0' : 0 < sz := by simpa [Nat.blt_eq] using h0
  have hb0' : 0 < y2.bytes := by simpa [Nat.blt_eq] using hb0
  obtain ⟨de, ii, z, hde, hinfo, hz, _, _, _, _, _, hel', _, hsl', _⟩ := tyOf_spec (S.ty _ _ hy)
  obtain ⟨de2, i2, z2, hde2, hinfo2, hz2, _, hsz2, hby2, hzz2, _⟩ := tyOf_spec (S.ty _ _ hy2)
  rw [hel] at hel'
  rw [hsl] at hsl'
  cases de with
  | slice el =>
    simp only at hel'
    cases hq : P.info? el with
    | none =>
      rw [hq] at hel'
      simp at hel'
      omega
    | some q =>
      rw [hq] at hel'
      simp only [Prod.mk.injEq] at hel'
      obtain ⟨rfl, hs1⟩ := hel'
      rw [hinfo2] at hq
      simp at hq
      subst hq
      have hzs : z2.cells.size = sz := by rw [← Array.length_toList, ← hzz2]; exact hz1
      refine wpList_plain rfl fun K hK => wp_append_Own w s x t rfl 0 e i2 z2 sz y2.bytes hde hinfo2 hz2 hs1.symm (by omega) hzs h0' v k xs (T.eval hs) F.ext.2.1 ad k2 cp news (T.eval hx) hlen hnews hone hbytes hb0' (Nat.zero_le _) ?_
      intro ad' cap' w' h1 h2 h3
      exact hK _ _ (h _ _ _ _ (T.put (by simpa [Nat.blt_eq] using hd) _) (F.grownA h2 h1 h3))
  | _ => simp at hsl'

/-- a slice literal of one struct -/
theorem new_sliceR [S : Seat P tab fl] {t e : TypeId} {x : Operand} {y ye : Ty} {s : Nat} {K : List Value → Prop} (T : Tm a n ts) (hy : getY tab t = some y) (hel : y.elem = (e, s)) (hsl : y.isSl = true) (hye : getY tab e = some ye) (hs : ye.zero.length = s) (hlen : Nat.ble s 1000 = true) (h0 : Nat.blt 0 s = true)
    (h : fillK ts [0] [s] [(0, x)] ye.zero K) :
    ∃ cs, (∀ d' pos af gd, (execOp a.eval ⟨d', .buildSlice t 1 #[(0, x)], ty, pos, af, gd⟩).run P w = .ok (.value (.slice (some ⟨w.heap.size, 0, none⟩) 1 1)) (w.alloc (.cells cs.toArray e (0, 0)))) ∧ K cs := by
  have hle : s ≤ 1000 := by simpa using hlen
  have h0' : 0 < s := by simpa [Nat.blt_eq] using h0
  obtain ⟨de, ii, z, hde, hinfo, hz, _, _, _, _, _, hel', _, hsl', _⟩ := tyOf_spec (S.ty _ _ hy)
  obtain ⟨de2, i2, z2, hde2, hinfo2, hz2, _, hsz2, hby2, hzz2, _⟩ := tyOf_spec (S.ty _ _ hye)
  rw [hel] at hel'
  rw [hsl] at hsl'
  cases de with
  | slice el =>
    simp only at hel'
    cases hq : P.info? el with
    | none =>
      rw [hq] at hel'
      simp at hel'
      omega
    | some q =>
      rw [hq] at hel'
      simp only [Prod.mk.injEq] at hel'
      obtain ⟨rfl, hs1⟩ := hel'
      rw [hinfo2] at hq
      simp at hq
      subst hq
      obtain ⟨cs, hf, hk⟩ := fill_run T [0] [s] (fun i => some (i * i2.size, i2.size)) (fun i o s' ho hs' => by
        cases i with
        | zero =>
          simp at ho hs'
          subst ho hs'
          simp [hs1]
        | succ i => simp at ho) [(0, x)] _ K h
      refine ⟨cs, fun d' pos af gd => ?_, hk⟩
      have hzz : z2.cells = ye.zero.toArray := by rw [hzz2, Array.toArray_toList]
      have hzs : z2.cells.size = s := by rw [← Array.length_toList, ← hzz2]; exact hs
      have hcs : ((Array.range (1 * i2.size)).map (z2.cells[· % z2.cells.size]!)) = ye.zero.toArray := by
        rw [← hzz]
        apply Array.ext
        · simp; omega
        · intro j h1 h2
          simp only [Array.getElem_map, Array.getElem_range]
          rw [Nat.mod_eq_of_lt h2]
          simp [h2]
      have hr := run_buildSlice (P := P) w t e 1 ([(0, x)].map fun p => (p.1, a.eval p.2)).toArray cs.toArray i2 z2 hde hinfo2 hz2 (by omega) (by omega) (by rw [hcs]; exact hf)
      simp only [execOp, List.map_toArray, Sem.run_bind, Result.andThen_ok, Sem.run_pure] at hr ⊢
      rw [hr]
      rfl
  | _ => simp at hsl'
theorem st_buildSliceR [S : Seat P tab fl] {d : Nat} {t e : TypeId} {x : Operand} {y ye : Ty} {s : Nat} (T : Tm a n ts) (F : MemE E c m bs w) (hd : Nat.blt d n = true := by exact rfl) (hy : getY tab t = some y := by exact rfl) (hel : y.elem = (e, s) := by exact rfl) (hsl : y.isSl = true := by exact rfl) (hye : getY tab e = some ye := by exact rfl) (hs : ye.zero.length = s := by exact rfl) (hlen : Nat.ble s 1000 = true := by exact rfl) (h0 : Nat.blt 0 s = true := by exact rfl)
    (h : fillK ts [0] [s] [(0, x)] ye.zero fun cs => ∀ a' g w', Tm a' n ((d, .slice (some ⟨g, 0, none⟩) 1 1) :: ts) → MemE E c m (⟨g, cs, e⟩ :: bs) w' → wpList P ops Q rest a' w') :
    wpList P ops Q (⟨some d, .buildSlice t 1 #[(0, x)], ty, pos, af, none⟩ :: rest) a w := by
  obtain ⟨cs, h1, h2⟩ := new_sliceR (ty := ty) (w := w) (P := P) T hy hel hsl hye hs hlen h0 h
  refine wpList_plain rfl fun K hK => ?_
  unfold Oper.wp
  rw [h1]
  exact hK _ _ (h2 _ _ _ (T.put (by simpa [Nat.blt_eq] using hd) _) (F.alloc cs e))

/-- a whole number stored to a place of what the call owns -/
theorem st_storeSl [S : Seat P tab fl] {t : TypeId} {x z : Operand} {y : Ty} {kk : IntKind} {u : Int} {g j k cap : Nat} {e : TypeId} {xs : List Value} (T : Tm a n ts) (F : MemE (SlA E1 e 1 (.slice (some ⟨g, 0, none⟩) k cap) k xs) c m bs w) (hj : j < k) (hx : ev ts x = some (.pointer (some ⟨g, j, none⟩)) := by exact rfl)
    (hz : ev ts z = some (.int kk u) := by exact rfl) (hy : getY tab t = some y := by exact rfl) (hl : y.size = 1 := by exact rfl)
    (h : ∀ a' w', Tm a' n ts → MemE (SlA E1 e 1 (.slice (some ⟨g, 0, none⟩) k cap) k (xs.set j (.int kk u))) c m bs w' → wpList P ops Q rest a' w') : wpList P ops Q (⟨none, .store t x z, ty, pos, af, none⟩ :: rest) a w := by
  obtain ⟨hE1, ⟨ad, cap', hv, hxl, hn, hm, hcase⟩, hdj⟩ := F.ext
  simp at hv
  obtain ⟨rfl, rfl⟩ := hv
  have hb : blk (.slice (some ⟨g, 0, none⟩) k cap) = some g := blk_pos k j (by omega)
  rcases hcase with hc0 | ⟨g', cur, hg', _, hcell, hcsz, htk⟩
  · omega
  simp at hg'
  subst hg'
  have hlt : j < cur.size := by omega
  have hhg : w.heap[g]? = some (.cells cur.toList.toArray e (0, 0)) := by simpa using hcell
  have hth := there_of hhg (o := j) (n := 1) (by simp; omega)
  have hst := run_storeCells_cells (P := P) g j [.int kk u] 0 w (fun j' hj' => by simpa using (hth j' hj').1) (fun j' hj' => by simpa using (hth j' hj').2) (fun u hu => by simp at hu; subst hu; rfl)
  have hsz := run_sizeOf_y (S.ty _ _ hy) w
  rw [hl] at hsz
  obtain ⟨r1, r2, r3, r4⟩ := setCells_rest (b := g) [.int kk u] j w
  have hov := setCells_over [.int kk u] j cur.toList w (by simp; omega) hhg
  have hoth : ∀ q, q ≠ g → (w.setCells g j [.int kk u]).heap[q]? = w.heap[q]? := fun q hq => setCells_heap_other _ j w q hq
  have hloose := F.loose g (.inr hb)
  rw [overL_one _ _ _ (by simpa using hlt)] at hov
  have F2 : MemE (SlA E1 e 1 (.slice (some ⟨g, 0, none⟩) k cap) k (xs.set j (.int kk u))) c m bs (w.setCells g j [.int kk u]) := by
    refine ⟨⟨r1.trans F.kept.os, r2.trans F.kept.tape, r3.trans F.kept.output, by rw [r4]; exact F.kept.size, fun q hq hnx => ?_⟩, F.sub0, fun p v ep => ?_, F.fresh, fun b hbm => ?_, F.nodup, ⟨E1.stab w _ (fun q hq => hoth q (fun eq => hdj g hb (eq ▸ hq))) hE1, ⟨_, cap, rfl, by rw [List.length_set]; exact hxl, hn, hm, .inr ⟨g, _, rfl, Nat.zero_le _, hov, by simpa using hcsz, ?_⟩⟩, hdj⟩, F.loose⟩
    · rw [hoth q (fun eq => by
        subst eq
        rcases hloose.1 with hg | hg
        · omega
        · exact hnx hg)]
      exact F.kept.block q hq hnx
    · have hp : p.block ≠ g := fun e' => by
        have := hloose.2.2 p.off p.spot
        obtain ⟨pb, po, ps⟩ := p
        subst e'
        rw [this] at ep
        cases ep
      rw [World.cell?_of_block (hoth _ hp)]
      exact F.sub p v ep
    · have hne : b.adr ≠ g := fun e => hloose.2.1 (List.mem_map.2 ⟨b, hbm, e⟩)
      have h := F.own b hbm
      exact ⟨h.1, by rw [hoth _ hne]; exact h.2.1, h.2.2⟩
    · rw [← htk]
      simp [List.take_set]
  refine wpList_plain rfl fun K hK => ?_
  unfold Oper.wp
  have hrun : (execOp a.eval ⟨none, .store t x z, ty, pos, af, none⟩).run P w = .ok .skip (w.setCells g j [.int kk u]) := by
    simp only [Nat.add_zero] at hst
    simp [execOp, T.eval hx, T.eval hz, Instr.storeAt, Instr.sureAddr, storeVar, Value.cells, hsz, hst]
  rw [hrun]
  exact hK _ _ (h _ _ (T.skip _) F2)
end
end Sy
end Go.Proofs.Ytniopkoaplkpkaa
namespace Go.Proofs.Ytniopkoaplkpkaa
open Go.RowKit
set_option linter.unusedVariables false
set_option linter.unusedSimpArgs false
namespace Sy
/-- m, and the block g of w -/
def frz (m w : World) (g : Nat) : World := { w with heap := ((List.range w.heap.size).map fun i => if i = g then (w.heap[i]?).getD (.cells #[] 0 (0, 0)) else (m.heap[i]?).getD (.cells #[] 0 (0, 0))).toArray }
theorem frz_heap (m w : World) (g i : Nat) (h : i < w.heap.size) : (frz m w g).heap[i]? = some (if i = g then (w.heap[i]?).getD (.cells #[] 0 (0, 0)) else (m.heap[i]?).getD (.cells #[] 0 (0, 0))) := by
  simp [frz, h]
theorem frz_at {m w : World} {g : Nat} (hg : g < w.heap.size) : (frz m w g).heap[g]? = w.heap[g]? := by
  rw [frz_heap m w g g hg, if_pos rfl]
  simp [hg]
theorem frz_cell {m w : World} {g : Nat} (p : Addr) (hp : p.block ≠ g) (hlt : p.block < w.heap.size) : (frz m w g).cell? p = m.cell? p := by
  have := frz_heap m w g p.block hlt
  rw [if_neg hp] at this
  unfold World.cell?
  rw [this]
  cases hm : m.heap[p.block]? with
  | none => simp
  | some o => simp
theorem frz_out {m w : World} {g : Nat} (p : Addr) {u : Value} (h : (frz m w g).cell? p = some u) : p.block < w.heap.size := by
  have := World.block_lt_of_cell? _ _ h
  simpa [frz] using this
theorem MemE.freezeX {E1 : Ext} {c : Cx} {m w : World} {bs : List Blk} {e : TypeId} {size : Nat} {v : Value} {n : Nat} {xs : List Value} (F : MemE (SlA E1 e size v n xs) c m bs w) (hw : ∀ k, blk v = some k → c.W.heap.size ≤ k) :
    ∃ m', Sub m m' ∧ MemE E1 c m' bs w ∧ ∀ a cap, v = .slice a n cap → Cells m' a xs := by
  obtain ⟨hE1, ho, hdj⟩ := F.ext
  obtain ⟨a, cap, rfl, hxl, hn, hm, hcase⟩ := ho
  by_cases h0 : cap = 0
  · refine ⟨m, Sub.refl m, ⟨F.kept, F.sub0, F.sub, F.fresh, F.own, F.nodup, hE1, fun k hk => F.loose k (.inl hk)⟩, fun a' cap' hv => ?_⟩
    have : xs = [] := List.eq_nil_of_length_eq_zero (by rw [hxl]; have : n = 0 := by omega
                                                        rw [this]; simp)
    exact .inl this
  · rcases hcase with hc | ⟨g, cur, rfl, _, hcell, hcsz, htk⟩
    · exact (h0 hc).elim
    have hb : blk (.slice (some ⟨g, 0, none⟩) n cap) = some g := blk_of h0 rfl
    have hgl : g < w.heap.size := (Array.getElem?_eq_some_iff.1 hcell).1
    have hl := F.loose g (.inr hb)
    have hWg : c.W.heap.size ≤ g := hw g hb
    have hmm : Sub m (frz m w g) := fun p u hu => by
      have hp : p.block ≠ g := fun e' => by
        have := hl.2.2 p.off p.spot
        obtain ⟨pb, po, ps⟩ := p
        subst e'
        rw [this] at hu
        cases hu
      rw [frz_cell p hp (World.block_lt_of_cell? w _ (F.sub p u hu))]
      exact hu
    have hmw : Sub (frz m w g) w := fun p u hu => by
      by_cases hp : p.block = g
      · rw [World.cell?_of_block (w := w) (by rw [hp]; exact frz_at hgl)] at hu
        exact hu
      · rw [frz_cell p hp (frz_out p hu)] at hu
        exact F.sub p u hu
    have hnone : ∀ k, k ≠ g → (∀ i s, m.cell? ⟨k, i, s⟩ = none) → ∀ i s, (frz m w g).cell? ⟨k, i, s⟩ = none := fun k hk hm i s => by
      cases hu : (frz m w g).cell? ⟨k, i, s⟩ with
      | none => rfl
      | some u =>
        have h1 := frz_out _ hu
        rw [frz_cell _ hk h1, hm i s] at hu
        cases hu
    refine ⟨frz m w g, hmm, ⟨F.kept, fun p u hu => hmm p u (F.sub0 p u hu), hmw, fun p u hp hu => ?_, fun b hbm => ?_, F.nodup, hE1, fun k hk => ?_⟩, fun a' cap' hv => ?_⟩
    · have hpg : p.block ≠ g := by
        have : p.block < c.W.heap.size := hp
        omega
      rw [frz_cell p hpg (frz_out p hu)] at hu
      exact F.fresh p u hp hu
    · have h := F.own b hbm
      exact ⟨h.1, h.2.1, hnone _ (fun e => hl.2.1 (List.mem_map.2 ⟨b, hbm, e⟩)) h.2.2⟩
    · have h := F.loose k (.inl hk)
      exact ⟨h.1, h.2.1, hnone _ (fun e => hdj g hb (e ▸ hk)) h.2.2⟩
    · simp at hv
      obtain ⟨rfl, rfl⟩ := hv
      refine .inr ⟨g, 0, rfl, fun i hi => ?_⟩
      have hfg : (frz m w g).cell? ⟨g, 0 + i, none⟩ = w.cell? ⟨g, 0 + i, none⟩ := World.cell?_of_block (frz_at hgl)
      rw [hfg]
      have hi2 : i < n * size := by rw [← hxl]; exact hi
      have h1 : cur[i]? = xs[i]? := by
        rw [← htk, List.getElem?_take_of_lt hi2]
        simp
      rw [List.getElem?_eq_getElem hi] at h1
      rw [Nat.zero_add]
      simp [World.cell?, hcell, h1]
theorem MemE.freeze {E1 : Ext} {W m0 m w : World} {bs : List Blk} {e : TypeId} {size : Nat} {v : Value} {n : Nat} {xs : List Value} (F : MemE (SlA E1 e size v n xs) ⟨W, [], m0⟩ m bs w) :
    ∃ m', Sub m m' ∧ MemE E1 ⟨W, [], m0⟩ m' bs w ∧ ∀ a cap, v = .slice a n cap → Cells m' a xs := F.freezeX fun k hk => (F.loose k (.inr hk)).1.resolve_right (by simp)
theorem MemE.takeSl {E : Ext} {c : Cx} {m w : World} {bs r : List Blk} {g : Nat} {cs : List Value} {e : TypeId} {size n : Nat} (F : MemE E c m bs w) (h : Take bs g cs e r) (hl : cs.length = n * size) (hn : n ≤ maxLen) : MemE (SlA E e size (.slice (some ⟨g, 0, none⟩) n n) n cs) c m r w := by
  have F' := F.perm h.perm
  have ho := F'.own ⟨g, cs, e⟩ (List.mem_cons_self ..)
  have hnd := List.nodup_cons.1 F'.nodup
  have hblk : ∀ k, blk (.slice (some ⟨g, 0, none⟩) n n) = some k → k = g := fun k hk => by
    cases n with
    | zero => exact (blk_zero _ k hk).elim
    | succ n => simp [blk] at hk; exact hk.symm
  refine ⟨F'.kept, F'.sub0, F'.sub, F'.fresh, fun b hb => F'.own b (List.mem_cons_of_mem _ hb), hnd.2, ⟨F'.ext, ⟨_, n, rfl, hl, Nat.le_refl _, hn, .inr ⟨g, cs.toArray, rfl, Nat.zero_le _, ho.2.1, by simpa using hl, ?_⟩⟩, fun k hk hs => ?_⟩, fun k hk => ?_⟩
  · rw [← hl]; simp
  · rw [hblk k hk] at hs
    exact (F'.loose g hs).2.1 (by simp)
  · rcases hk with hk | hk
    · have := F'.loose k hk
      exact ⟨this.1, fun hm => this.2.1 (by simp only [List.map_cons]; exact List.mem_cons_of_mem _ hm), this.2.2⟩
    · rw [hblk k hk]
      exact ⟨ho.1, hnd.1, ho.2.2⟩
end Sy
end Go.Proofs.Ytniopkoaplkpkaa
namespace Go.Proofs.Ytniopkoaplkpkaa
open Go.RowKit
set_option linter.unusedVariables false
set_option linter.unusedSimpArgs false
namespace Sy
theorem cells_lo {w : World} {ad : Option Addr} {xs ys : List Value} (c s : Nat) (h : Cells w ad (xs ++ ys)) : Cells w (if c = 0 then ad else ad.map (·.add (0 * s))) xs := by
  rcases h with h | ⟨b, o, ha, hc⟩
  · simp at h
    exact .inl h.1
  · subst ha
    refine .inr ⟨b, o, ?_, fun i hi => ?_⟩
    · split
      · rfl
      · simp [addr_add]
    · have := hc i (by simp; omega)
      rw [this, List.getElem_append_left hi]
theorem cells_hi {w : World} {ad : Option Addr} {xs ys : List Value} (c l s : Nat) (hl : xs.length = l * s) (hne : ys ≠ [] → c ≠ l) (h : Cells w ad (xs ++ ys)) : Cells w (if c = l then ad else ad.map (·.add (l * s))) ys := by
  by_cases hy : ys = []
  · exact .inl hy
  · rcases h with h | ⟨b, o, ha, hc⟩
    · simp at h
      exact (hy h.2).elim
    · subst ha
      rw [if_neg (hne hy)]
      refine .inr ⟨b, o + l * s, by simp [addr_add], fun i hi => ?_⟩
      have := hc (l * s + i) (by simp [hl]; omega)
      rw [Nat.add_assoc, this, List.getElem_append_right (by omega)]
      simp [hl]
section
variable {E E1 : Ext} {P : Program} {tab : List (Nat × Ty)} {fl : List Nat} {a : Act} {n : Nat} {ts : List (Nat × Value)} {w : World} {ty : TypeId} {pos : String} {af : Array Edge}
  {ops : Array Oper} {Q : Exit → Act → World → Prop} {rest : List Oper} {c : Cx} {m : World} {bs bs' : List Blk} {X : List Nat} {r : Ot} {i : Nat}
theorem runs_sliceH [S : Seat P tab fl] {t e : TypeId} {x hi : Operand} {ad : Option Addr} {l cp h s : Nat} {k : IntKind} {y : Ty} (T : Tm a n ts) (hx : ev ts x = some (.slice ad l cp)) (hh : ev ts hi = some (.int k (h : Int))) (hle : h ≤ cp) (hy : getY tab t = some y) (hsl : y.isSl = true) (hel : y.elem = (e, s)) (hs : Nat.blt 0 s = true) :
    Runs P a (.slice t x none (some hi) none) ty w (.slice (if cp = 0 then ad else ad.map (·.add (0 * s))) h cp) := .of fun _ _ _ _ => by
  have hs' : 0 < s := by simpa [Nat.blt_eq] using hs
  obtain ⟨de, ii, z, hde, hinfo, hz, _, _, _, _, _, hel', _, hsl', _⟩ := tyOf_spec (S.ty _ _ hy)
  rw [hel] at hel'
  rw [hsl] at hsl'
  cases de with
  | slice el =>
    simp only at hel'
    cases hq : P.info? el with
    | none => rw [hq] at hel'; simp at hel'; omega
    | some q =>
      rw [hq] at hel'
      simp only [Prod.mk.injEq] at hel'
      obtain ⟨rfl, hs1⟩ := hel'
      have hle' : (h : Int) ≤ (cp : Int) := by omega
      simp [execOp, T.eval hx, T.eval hh, Instr.sliceAt, Instr.slice, run_underlying hde, Instr.sliceBounds, Instr.sliceBound, asIntOf, sizeOf, typeInfo, hq, ← hs1, hle']
      intro hlt
      omega
  | _ => simp at hsl'
theorem runs_sliceL [S : Seat P tab fl] {t e : TypeId} {x lo : Operand} {ad : Option Addr} {l cp h s : Nat} {k : IntKind} {y : Ty} (T : Tm a n ts) (hx : ev ts x = some (.slice ad l cp)) (hh : ev ts lo = some (.int k (h : Int))) (hle : h ≤ l) (hy : getY tab t = some y) (hsl : y.isSl = true) (hel : y.elem = (e, s)) (hs : Nat.blt 0 s = true) :
    Runs P a (.slice t x (some lo) none none) ty w (.slice (if cp = h then ad else ad.map (·.add (h * s))) (l - h) (cp - h)) := .of fun _ _ _ _ => by
  have hs' : 0 < s := by simpa [Nat.blt_eq] using hs
  obtain ⟨de, ii, z, hde, hinfo, hz, _, _, _, _, _, hel', _, hsl', _⟩ := tyOf_spec (S.ty _ _ hy)
  rw [hel] at hel'
  rw [hsl] at hsl'
  cases de with
  | slice el =>
    simp only at hel'
    cases hq : P.info? el with
    | none => rw [hq] at hel'; simp at hel'; omega
    | some q =>
      rw [hq] at hel'
      simp only [Prod.mk.injEq] at hel'
      obtain ⟨rfl, hs1⟩ := hel'
      have hle' : (h : Int) ≤ (l : Int) := by omega
      simp [execOp, T.eval hx, T.eval hh, Instr.sliceAt, Instr.slice, run_underlying hde, Instr.sliceBounds, Instr.sliceBound, asIntOf, sizeOf, typeInfo, hq, ← hs1, hle']
      intro hlt
      omega
  | _ => simp at hsl'
theorem sx_sliceH [S : Seat P tab fl] {d : Nat} {t e : TypeId} {x hi : Operand} {ad : Option Addr} {l cp h s : Nat} {k : IntKind} {y : Ty} (hi' : nthO ops i = some ⟨some d, .slice t x none (some hi) none, ty, pos, af, none⟩) (T : Tm a n ts) (hle : h ≤ cp) (hx : ev ts x = some (.slice ad l cp) := by exact rfl) (hh : ev ts hi = some (.int k (h : Int)) := by exact rfl)
    (hd : Nat.blt d n = true := by exact rfl) (hy : getY tab t = some y := by exact rfl) (hsl : y.isSl = true := by exact rfl) (hel : y.elem = (e, s) := by exact rfl) (hs : Nat.blt 0 s = true := by exact rfl)
    (h2 : ∀ a', Tm a' n ((d, .slice (if cp = 0 then ad else ad.map (·.add (0 * s))) h cp) :: ts) → wpUx P X ops Q r w.heap.size w a' w) : wpUx P X ops Q (.t i r) w.heap.size w a w :=
  sx_plain hi' rfl (sx_val (fun w' _ => runs_sliceH T hx hh hle hy hsl hel hs) T hd h2)
theorem sx_sliceL [S : Seat P tab fl] {d : Nat} {t e : TypeId} {x lo : Operand} {ad : Option Addr} {l cp h s : Nat} {k : IntKind} {y : Ty} (hi' : nthO ops i = some ⟨some d, .slice t x (some lo) none none, ty, pos, af, none⟩) (T : Tm a n ts) (hle : h ≤ l) (hx : ev ts x = some (.slice ad l cp) := by exact rfl) (hh : ev ts lo = some (.int k (h : Int)) := by exact rfl)
    (hd : Nat.blt d n = true := by exact rfl) (hy : getY tab t = some y := by exact rfl) (hsl : y.isSl = true := by exact rfl) (hel : y.elem = (e, s) := by exact rfl) (hs : Nat.blt 0 s = true := by exact rfl)
    (h2 : ∀ a', Tm a' n ((d, .slice (if cp = h then ad else ad.map (·.add (h * s))) (l - h) (cp - h)) :: ts) → wpUx P X ops Q r w.heap.size w a' w) : wpUx P X ops Q (.t i r) w.heap.size w a w :=
  sx_plain hi' rfl (sx_val (fun w' _ => runs_sliceL T hx hh hle hy hsl hel hs) T hd h2)
/-- an empty slice literal, which the call may append to -/
theorem sx_slice0 [S : Seat P tab fl] {d : Nat} {t e : TypeId} {s : Nat} {y : Ty} (hi' : nthO ops i = some ⟨some d, .buildSlice t 0 #[], ty, pos, af, none⟩) (T : Tm a n ts) (F : MemE E c m bs w) (hd : Nat.blt d n = true := by exact rfl) (hy : getY tab t = some y := by exact rfl) (hsl : y.isSl = true := by exact rfl) (hel : y.elem = (e, s) := by exact rfl) (hs : Nat.blt 0 s = true := by exact rfl)
    (h : ∀ a' g w', Tm a' n ((d, .slice (some ⟨g, 0, none⟩) 0 0) :: ts) → MemE (SlA E e s (.slice (some ⟨g, 0, none⟩) 0 0) 0 []) c m bs w' → wpUx P X ops Q r w'.heap.size w' a' w') : wpUx P X ops Q (.h i r) w.heap.size w a w := by
  have hs' : 0 < s := by simpa [Nat.blt_eq] using hs
  obtain ⟨de, ii, z, hde, hinfo, hz, _, _, _, _, _, hel', _, hsl', _⟩ := tyOf_spec (S.ty _ _ hy)
  rw [hel] at hel'
  rw [hsl] at hsl'
  cases de with
  | slice el =>
    simp only at hel'
    cases hq : P.info? el with
    | none => rw [hq] at hel'; simp at hel'; omega
    | some q =>
      rw [hq] at hel'
      simp only [Prod.mk.injEq] at hel'
      obtain ⟨rfl, hs1⟩ := hel'
      have h1 : ∀ d' pos af gd, (execOp a.eval ⟨d', .buildSlice t 0 #[], ty, pos, af, gd⟩).run P w = .ok (.value (.slice (some ⟨w.heap.size, 0, none⟩) 0 0)) (w.alloc (.cells #[] e (0, 0))) := by
        intro d' pos af gd
        simp [execOp, Instr.buildSlice, run_underlying hde, sizeOf, typeInfo, hq, newRow, newObj]
        have e0 : (Array.map (fun _ => (default : Value)) (Array.range 0)) = #[] := by simp
        rw [e0]
        rfl
      refine sx_hole hi' rfl fun K hK => wpList_plain rfl fun K' hK' => ?_
      unfold Oper.wp
      rw [h1]
      have F2 : MemE (SlA E e s (.slice (some ⟨w.heap.size, 0, none⟩) 0 0) 0 []) c m bs (w.alloc (.cells #[] e (0, 0))) := (F.below (balloc _ _)).slA0 e s _
      exact hK' _ _ (atK (hK _ _ (belowX (balloc _ _)) (h _ _ _ (T.put (by simpa [Nat.blt_eq] using hd) _) F2)))
  | _ => simp at hsl'
theorem sx_buildSliceR [S : Seat P tab fl] {d : Nat} {t e : TypeId} {x : Operand} {y ye : Ty} {s : Nat} (hi' : nthO ops i = some ⟨some d, .buildSlice t 1 #[(0, x)], ty, pos, af, none⟩) (T : Tm a n ts) (F : MemE E c m bs w) (hd : Nat.blt d n = true := by exact rfl) (hy : getY tab t = some y := by exact rfl) (hel : y.elem = (e, s) := by exact rfl) (hsl : y.isSl = true := by exact rfl) (hye : getY tab e = some ye := by exact rfl) (hs : ye.zero.length = s := by exact rfl) (hlen : Nat.ble s 1000 = true := by exact rfl) (h0 : Nat.blt 0 s = true := by exact rfl)
    (h : fillK ts [0] [s] [(0, x)] ye.zero fun cs => ∀ a' g w', Tm a' n ((d, .slice (some ⟨g, 0, none⟩) 1 1) :: ts) → MemE E c m (⟨g, cs, e⟩ :: bs) w' → wpUx P X ops Q r w'.heap.size w' a' w') : wpUx P X ops Q (.h i r) w.heap.size w a w := by
  obtain ⟨cs, h1, h2⟩ := new_sliceR (ty := ty) (w := w) (P := P) T hy hel hsl hye hs hlen h0 h
  refine sx_hole hi' rfl fun K hK => wpList_plain rfl fun K' hK' => ?_
  unfold Oper.wp
  rw [h1]
  exact hK' _ _ (atK (hK _ _ (belowX (balloc _ _)) (h2 _ _ _ (T.put (by simpa [Nat.blt_eq] using hd) _) (F.alloc cs e))))
theorem sx_appendC [S : Seat P tab fl] {d : Nat} {s x : Operand} {t e : TypeId} {v : Value} {k : Nat} {xs : List Value} {ad : Option Addr} {k2 cp : Nat} {news : List Value} {sz : Nat} {y y2 : Ty} (hi' : nthO ops i = some ⟨some d, .call { callee := .builtin .append, args := #[s, x], argTypes := #[t, t] }, ty, pos, af, none⟩) (T : Tm a n ts) (F : MemE (SlA E1 e sz v k xs) c m bs w)
    (hX : ∀ q, blk v = some q → q ∈ X)
    (hnews : Cells w ad news) (hlen : news.length = k2 * sz) (hone : ∀ u ∈ news, u.oneCell' = true) (hs : ev ts s = some v := by exact rfl) (hx : ev ts x = some (.slice ad k2 cp) := by exact rfl) (hd : Nat.blt d n = true := by exact rfl)
    (hy : getY tab t = some y := by exact rfl) (hel : y.elem = (e, sz) := by exact rfl) (hy2 : getY tab e = some y2 := by exact rfl) (hz1 : y2.zero.length = sz := by exact rfl) (hsl : y.isSl = true := by exact rfl) (h0 : Nat.blt 0 sz = true := by exact rfl) (hb0 : Nat.blt 0 y2.bytes = true := by exact rfl)
    (hbytes : (k + k2) * y2.bytes ≤ 140737488355328)
    (h : ∀ ad' cap' X' a' w', (∀ q, blk (.slice ad' (k + k2) cap') = some q → q ∈ X') → Tm a' n ((d, .slice ad' (k + k2) cap') :: ts) → MemE (SlA E1 e sz (.slice ad' (k + k2) cap') (k + k2) (xs ++ news)) c m bs w' → wpUx P X' ops Q r w'.heap.size w' a' w') :
    wpUx P X ops Q (.h i r) w.heap.size w a w := by
  have h0' : 0 < sz := by simpa [Nat.blt_eq] using h0
  have hb0' : 0 < y2.bytes := by simpa [Nat.blt_eq] using hb0
  obtain ⟨de, ii, z, hde, hinfo, hz, _, _, _, _, _, hel', _, hsl', _⟩ := tyOf_spec (S.ty _ _ hy)
  obtain ⟨de2, i2, z2, hde2, hinfo2, hz2, _, hsz2, hby2, hzz2, _⟩ := tyOf_spec (S.ty _ _ hy2)
  rw [hel] at hel'
  rw [hsl] at hsl'
  cases de with
  | slice el =>
    simp only at hel'
    cases hq : P.info? el with
    | none =>
      rw [hq] at hel'
      simp at hel'
      omega
    | some q =>
      rw [hq] at hel'
      simp only [Prod.mk.injEq] at hel'
      obtain ⟨rfl, hs1⟩ := hel'
      rw [hinfo2] at hq
      simp at hq
      subst hq
      have hzs : z2.cells.size = sz := by rw [← Array.length_toList, ← hzz2]; exact hz1
      refine sx_holeX hi' rfl fun K hK => wpList_plain rfl fun K' hK' => wp_append_Own w s x t rfl 0 e i2 z2 sz y2.bytes hde hinfo2 hz2 hs1.symm (by omega) hzs h0' v k xs (T.eval hs) F.ext.2.1 ad k2 cp news (T.eval hx) hlen hnews hone hbytes hb0' (Nat.zero_le _) ?_
      intro ad' cap' w' h1 h2 h3
      have hbx : BelowX X w.heap.size w w' := ⟨h2.os, h2.tape, h2.output, h2.size, fun q hq hqX => h2.block q hq fun hb => hqX (hX q hb.symm)⟩
      have hTm := T.put (d := d) (by simpa [Nat.blt_eq] using hd) (.slice ad' (k + k2) cap')
      rcases h3 with h3 | ⟨q, h3, h4⟩
      · exact hK' _ _ (atK (hK X _ _ (fun q hq => .inl hq) hbx (h ad' cap' X _ _ (fun q hq => hX q (h3.symm.trans hq)) hTm (F.grownA h2 h1 (.inl h3)))))
      · exact hK' _ _ (atK (hK (q :: X) _ _ (fun p hp => by
          rcases List.mem_cons.1 hp with rfl | hp
          · exact .inr h4
          · exact .inl hp) hbx (h ad' cap' (q :: X) _ _ (fun p hp => by
            rw [h3] at hp
            simp at hp
            subst hp
            exact List.mem_cons_self ..) hTm (F.grownA h2 h1 (.inr ⟨q, h3, h4⟩)))))
  | _ => simp at hsl'
end
end Sy
end Go.Proofs.Ytniopkoaplkpkaa
namespace Go.Proofs.Ytniopkoaplkpkaa
open Go.RowKit
set_option linter.unusedVariables false
set_option linter.unusedSimpArgs false
namespace Sy
/-- a value comes back; the block g holds other cells; what else was there stands -/
def RetX (m w : World) (g : Nat) (t : TypeId) (R : World → Value → List Value → Prop) (e : Ending) (w' : World) : Prop :=
  ∃ v m' cs', e = .returned v ∧ Kept [g] w w' ∧ Sub m m' ∧ Sub m' w' ∧ (∀ p u, p.block < w.heap.size → m'.cell? p = some u → m.cell? p = some u) ∧ w'.heap[g]? = some (.cells cs'.toArray t (0, 0)) ∧ R m' v cs'
theorem Mem.startX {m W : World} {g : Nat} {cs : List Value} {t : TypeId} (h : Sub m W) (hg : W.heap[g]? = some (.cells cs.toArray t (0, 0))) (hn : ∀ i s, m.cell? ⟨g, i, s⟩ = none) : Mem ⟨W, [g], m⟩ m [⟨g, cs, t⟩] W :=
  ⟨Kept.refl _ _, Sub.refl _, h, fun _ _ _ e => e, fun b hb => by
    simp at hb
    subst hb
    exact ⟨.inr (by simp), hg, hn⟩, by simp, trivial, fun _ h => h.elim⟩
theorem MemE.retX {E : Ext} {W m0 m w : World} {bs r : List Blk} {g : Nat} {cs : List Value} {t : TypeId} {R : World → Value → List Value → Prop} {v : Value} (F : MemE E ⟨W, [g], m0⟩ m bs w) (hk : Take bs g cs t r) (h : R m v cs) : RetX m0 W g t R (.returned v) w :=
  ⟨v, m, cs, rfl, F.kept, F.sub0, F.sub, F.fresh, F.get hk, h⟩
theorem MemE.afterX {E : Ext} {c : Cx} {m m' w w' : World} {bs r : List Blk} {g : Nat} {cs cs' : List Value} {t : TypeId} (F : MemE E c m bs w) (hk : Take bs g cs t r) (hb : Kept [g] w w') (h1 : Sub m m') (h2 : Sub m' w') (h3 : ∀ p u, p.block < w.heap.size → m'.cell? p = some u → m.cell? p = some u) (hg : w'.heap[g]? = some (.cells cs'.toArray t (0, 0))) : MemE E c m' (⟨g, cs', t⟩ :: r) w' := by
  have F' := F.perm hk.perm
  have ho := F'.own ⟨g, cs, t⟩ (List.mem_cons_self ..)
  have hnd := List.nodup_cons.1 F'.nodup
  have hlt : ∀ b ∈ (⟨g, cs, t⟩ :: r : List Blk), b.adr < w.heap.size := fun b hb => F'.lt hb
  have hnone : ∀ k, k < w.heap.size → (∀ i s, m.cell? ⟨k, i, s⟩ = none) → ∀ i s, m'.cell? ⟨k, i, s⟩ = none := fun k hk hm i s => by
    cases hc : m'.cell? ⟨k, i, s⟩ with
    | none => rfl
    | some v => have := h3 _ _ hk hc; rw [hm i s] at this; cases this
  have hE : ∀ k, E.S k → w'.heap[k]? = w.heap[k]? := fun k hsk => hb.block k (E.dom w k F'.ext hsk) (fun hm => by
    simp at hm
    exact (F'.loose k hsk).2.1 (by simp [hm]))
  refine ⟨⟨hb.os.trans F.kept.os, hb.tape.trans F.kept.tape, hb.output.trans F.kept.output, Nat.le_trans F.kept.size hb.size, fun k hkk hx => ?_⟩, F.sub0.trans h1, h2, fun p v hp e => F.fresh p v hp (h3 p v (Nat.lt_of_lt_of_le hp F.size) e), fun b hbm => ?_, ?_, E.stab w w' hE F'.ext, fun k hkk => ?_⟩
  · rw [hb.block k (Nat.lt_of_lt_of_le hkk F.kept.size) (fun hm => by
      simp at hm
      subst hm
      rcases ho.1 with h | h
      · exact absurd hkk (Nat.not_lt.2 h)
      · exact hx h)]
    exact F.kept.block k hkk hx
  · rcases List.mem_cons.1 hbm with rfl | hbm
    · exact ⟨ho.1, hg, hnone g (hlt _ (List.mem_cons_self ..)) ho.2.2⟩
    · have h := F'.own b (List.mem_cons_of_mem _ hbm)
      have hl := hlt b (List.mem_cons_of_mem _ hbm)
      refine ⟨h.1, ?_, hnone _ hl h.2.2⟩
      rw [hb.block b.adr hl (fun hm => by
        simp at hm
        exact hnd.1 (List.mem_map.2 ⟨b, hbm, hm⟩))]
      exact h.2.1
  · simp only [List.map_cons]
    exact List.nodup_cons.2 hnd
  · have h := F'.loose k hkk
    exact ⟨h.1, by simpa using h.2.1, hnone k (E.dom w k F'.ext hkk) h.2.2⟩
section
variable {E : Ext} {P : Program} {tab : List (Nat × Ty)} {fl : List Nat} {a : Act} {n : Nat} {ts : List (Nat × Value)} {w : World} {ty : TypeId} {pos : String} {af : Array Edge}
  {ops : Array Oper} {Q : Exit → Act → World → Prop} {rest : List Oper} {c : Cx} {m : World} {bs bs' : List Blk}
/-- a call that writes the block g -/
theorem st_callX [S : Seat P tab fl] {d : Nat} {f : FuncId} {args : List Operand} {ats : Array TypeId} {vs : List Value} {g : Nat} {cs : List Value} {t : TypeId} {R : World → Value → List Value → Prop} (T : Tm a n ts) (F : MemE E c m bs w) (hc : Calls P f vs.toArray w (RetX m w g t R)) (hk : Take bs g cs t bs' := by repeat (first | exact Go.Proofs.Ytniopkoaplkpkaa.Sy.Take.here | apply Go.Proofs.Ytniopkoaplkpkaa.Sy.Take.there))
    (hfl : fl.contains f = true := by exact rfl) (ha : evs ts args = some vs := by exact rfl) (hd : Nat.blt d n = true := by exact rfl)
    (h : ∀ v m' cs' a' w', R m' v cs' → Sub m m' → Tm a' n ((d, v) :: ts) → MemE E c m' (⟨g, cs', t⟩ :: bs') w' → wpList P ops Q rest a' w') :
    wpList P ops Q (⟨some d, .call { callee := .value (.func f), args := args.toArray, argTypes := ats }, ty, pos, af, none⟩ :: rest) a w :=
  st_call (R := RetX m w g t R) (us := []) (ks := []) T rfl hfl ha hd (by simpa using hc) fun e w' ⟨v, m', cs', he, hb, h1, h2, h3, hg, hr⟩ => ⟨v, he, fun a' T' => h v m' cs' a' w' hr h1 T' (F.afterX hk hb h1 h2 h3 hg)⟩
end
end Sy
end Go.Proofs.Ytniopkoaplkpkaa
namespace Go.Proofs.Ytniopkoaplkpkaa
open Go.RowKit
set_option linter.unusedVariables false
set_option linter.unusedSimpArgs false
namespace Sy
section
variable {E : Ext} {P : Program} {tab : List (Nat × Ty)} {fl : List Nat} {a : Act} {n : Nat} {ts : List (Nat × Value)} {w : World} {ty : TypeId} {pos : String} {af : Array Edge}
  {ops : Array Oper} {Q : Exit → Act → World → Prop} {rest : List Oper} {c : Cx} {m : World} {bs bs' : List Blk} {X : List Nat} {r : Ot} {i : Nat}
theorem sx_makeSlice [S : Seat P tab fl] {d : Nat} {t e : TypeId} {x z : Operand} {k1 k2 : IntKind} {len : Nat} {y ye : Ty} {z0 : Value} (hi' : nthO ops i = some ⟨some d, .makeSlice t x z, ty, pos, af, none⟩) (T : Tm a n ts) (F : MemE E c m bs w) (hle : len ≤ 1000000)
    (hx : ev ts x = some (.int k1 (len : Int)) := by exact rfl) (hz : ev ts z = some (.int k2 (len : Int)) := by exact rfl) (hd : Nat.blt d n = true := by exact rfl) (hy : getY tab t = some y := by exact rfl) (hel : y.elem = (e, 1) := by exact rfl) (hsl : y.isSl = true := by exact rfl) (hye : getY tab e = some ye := by exact rfl) (hz0 : ye.zero = [z0] := by exact rfl) (hby : Nat.ble ye.bytes 64 = true := by exact rfl)
    (h : ∀ a' g w', Tm a' n ((d, .slice (some ⟨g, 0, none⟩) len len) :: ts) → MemE E c m (⟨g, List.replicate len z0, e⟩ :: bs) w' → wpUx P X ops Q r w'.heap.size w' a' w') : wpUx P X ops Q (.h i r) w.heap.size w a w := by
  obtain ⟨de, ii, zz, hde, hinfo, hzz, _, _, _, _, _, hel', _, hsl', _⟩ := tyOf_spec (S.ty _ _ hy)
  obtain ⟨de2, i2, z2, hde2, hinfo2, hz2, _, hsz2, hby2, hzz2, _⟩ := tyOf_spec (S.ty _ _ hye)
  rw [hel] at hel'
  rw [hsl] at hsl'
  cases de with
  | slice el =>
    simp only at hel'
    cases hq : P.info? el with
    | none =>
      rw [hq] at hel'
      simp at hel'
    | some q =>
      rw [hq] at hel'
      simp only [Prod.mk.injEq] at hel'
      obtain ⟨rfl, hs1⟩ := hel'
      rw [hinfo2] at hq
      simp at hq
      subst hq
      have hb64 : i2.bytes ≤ 64 := by rw [← hby2]; simpa using hby
      have hzc : z2.cells = #[z0] := by
        have : z2.cells.toList = [z0] := by rw [← hzz2]; exact hz0
        rw [← Array.toArray_toList (xs := z2.cells), this]
      have hbytes : (i2.bytes : Int) * (len : Int) ≤ 281474976710656 := by
        have h1 : i2.bytes * len ≤ 64 * 1000000 := Nat.mul_le_mul hb64 hle
        have h2 : ((i2.bytes * len : Nat) : Int) ≤ 281474976710656 := by omega
        rwa [Int.natCast_mul] at h2
      have hr := run_makeSlice (P := P) w t e i2 z2 hde hinfo2 hz2 k1 k2 (len : Int) (len : Int) (by omega) (Int.le_refl _) (by rw [← hs1]; simp; omega) hbytes (by omega)
      simp only [Int.toNat_natCast] at hr
      have hcs : madeCells z2.cells (len * i2.size) = (List.replicate len z0).toArray := by
        rw [← hs1, Nat.mul_one, hzc]
        apply Array.ext
        · simp [madeCells]
        · intro j h1 h2
          simp [madeCells, Nat.mod_one]
      rw [hcs] at hr
      refine sx_hole hi' rfl fun K hK => wpList_plain rfl fun K' hK' => ?_
      unfold Oper.wp
      have hrun : ∀ d' pos af gd, (execOp a.eval ⟨d', .makeSlice t x z, ty, pos, af, gd⟩).run P w = .ok (.value (.slice (some ⟨w.heap.size, 0, none⟩) len len)) (w.alloc (.cells (List.replicate len z0).toArray e (0, 0))) := by
        intro d' pos af gd
        simp [execOp, T.eval hx, T.eval hz, hr]
      rw [hrun]
      exact hK' _ _ (atK (hK _ _ (belowX (balloc _ _)) (h _ _ _ (T.put (by simpa [Nat.blt_eq] using hd) _) (F.alloc _ e))))
  | _ => simp at hsl'
end
end Sy
end Go.Proofs.Ytniopkoaplkpkaa
