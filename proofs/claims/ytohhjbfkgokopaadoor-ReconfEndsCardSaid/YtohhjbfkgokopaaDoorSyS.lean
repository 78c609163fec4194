/- Slices of the call's own that are appended to, and slice literals of one-cell elements, in the walk that names what it knows. Over any program. No condition. -/
import Derived.Test.YtohhjbfkgokopaaDoorSyL
import Derived.Great.BuildSlice
namespace Go.Proofs.YtohhjbfkgokopaaDoor
open Go.RowKit
set_option linter.unusedVariables false
set_option linter.unusedSimpArgs false
namespace Sy

theorem blk_of {a : Option Addr} {n cap g : Nat} (h0 : cap ≠ 0) (ha : a = some ⟨g, 0, none⟩) : blk (.slice a n cap) = some g := by
  subst ha
  cases cap with
  | zero => exact (h0 rfl).elim
  | succ c => rfl
/-- a slice that the call owns -/
def SlE (e : TypeId) (size : Nat) (v : Value) (n : Nat) (xs : List Value) : Ext where
  S k := blk v = some k
  R w := Own w 0 e size v n xs
  stab w w' h hr := by
    obtain ⟨a, cap, rfl, hl, hn, hm, h'⟩ := hr
    refine ⟨a, cap, rfl, hl, hn, hm, ?_⟩
    rcases h' with h0 | ⟨g, cur, ha, hb, hg, hc, ht⟩
    · exact .inl h0
    · by_cases h0 : cap = 0
      · exact .inl h0
      · exact .inr ⟨g, cur, ha, hb, by rw [h g (blk_of h0 ha)]; exact hg, hc, ht⟩
  dom w k hr hk := (hr.lt k hk).2

section
variable {E : Ext} {c : Cx} {m w : World} {bs : List Blk}
theorem MemE.none_ (F : MemE E c m bs w) : Mem c m bs w := ⟨F.kept, F.sub0, F.sub, F.fresh, F.own, F.nodup, trivial, fun _ h => h.elim⟩
/-- a slice without room -/
theorem MemE.slice0 (F : MemE E c m bs w) (e : TypeId) (size : Nat) (a : Option Addr) : MemE (SlE e size (.slice a 0 0) 0 []) c m bs w :=
  ⟨F.kept, F.sub0, F.sub, F.fresh, F.own, F.nodup, Own.empty w 0 e size a, fun k hk => by
    have : blk (.slice a 0 0) = some k := hk
    cases a <;> simp [blk] at this⟩
theorem MemE.grown {e e' : TypeId} {size size' : Nat} {v v' : Value} {n n' : Nat} {xs xs' : List Value} (F : MemE (SlE e size v n xs) c m bs w) {w' : World} (hg : w.grownBy w' (blk v)) (ho : Own w' 0 e' size' v' n' xs') (hb : blk v' = blk v ∨ ∃ k, blk v' = some k ∧ w.heap.size ≤ k) : MemE (SlE e' size' v' n' xs') c m bs w' := by
  have hlt : ∀ b ∈ bs, b.adr < w.heap.size := fun b hb => F.lt hb
  have hne : ∀ b ∈ bs, some b.adr ≠ blk v := fun b hb hbv => (F.loose b.adr hbv.symm).2.1 (List.mem_map_of_mem hb)
  refine ⟨⟨hg.os.trans F.kept.os, hg.tape.trans F.kept.tape, hg.output.trans F.kept.output, Nat.le_trans F.kept.size hg.size, fun k hk hx => ?_⟩, F.sub0, fun p u hu => ?_, F.fresh, fun b hb => ⟨(F.own b hb).1, ?_, (F.own b hb).2.2⟩, F.nodup, ho, fun k hk => ?_⟩
  · rw [hg.block k (Nat.lt_of_lt_of_le hk F.kept.size) (fun h => by
      have := (F.loose k h.symm).1
      rcases this with h1 | h1
      · omega
      · exact hx h1)]
    exact F.kept.block k hk hx
  · have h1 := F.sub p u hu
    have hpl := World.block_lt_of_cell? w _ h1
    rw [World.cell?_of_block (w := w) (hg.block p.block hpl (fun h => by
      have := (F.loose p.block h.symm).2.2 p.off p.spot
      rw [hu] at this
      cases this))]
    exact h1
  · rw [hg.block _ (hlt b hb) (hne b hb)]; exact (F.own b hb).2.1
  · have hk' : blk v' = some k := hk
    rcases hb with hb | ⟨k2, hb, hk2⟩
    · exact F.loose k (hb.symm.trans hk')
    · rw [hb] at hk'
      simp at hk'
      subst hk'
      refine ⟨.inl (Nat.le_trans F.size hk2), fun hm => ?_, fun i s => cell_none F.sub hk2 i s⟩
      obtain ⟨b, hbm, he⟩ := List.mem_map.1 hm
      have := hlt b hbm
      omega
end

section
variable {E : Ext} {P : Program} {tab : List (Nat × Ty)} {fl : List Nat} {a : Act} {n : Nat} {ts : List (Nat × Value)} {w : World} {ty : TypeId} {pos : String} {af : Array Edge}
  {ops : Array Oper} {Q : Exit → Act → World → Prop} {rest : List Oper} {c : Cx} {m : World} {bs bs' : List Blk} {X : List Nat} {r : Ot} {i : Nat}

/-- bytes appended to what the call owns -/
theorem st_append [S : Seat P tab fl] {d : Nat} {s x : Operand} {t e : TypeId} {v : Value} {l : List UInt8} {ad : Option Addr} {k cp : Nat} {l2 : List UInt8} {y y2 : Ty} (T : Tm a n ts) (F : MemE (SlE e 1 v l.length (l.map bv)) c m bs w)
    (hnews : Bytes w ad k l2) (hsmall : l.length + l2.length ≤ 140737488355328) (hs : ev ts s = some v := by exact rfl) (hx : ev ts x = some (.slice ad k cp) := by exact rfl) (hd : Nat.blt d n = true := by exact rfl)
    (hy : getY tab t = some y := by exact rfl) (hel : y.elem = (e, 1) := by exact rfl) (hy2 : getY tab e = some y2 := by exact rfl) (hb1 : y2.bytes = 1 := by exact rfl) (hz1 : y2.zero.length = 1 := by exact rfl) (hsl : y.isSl = true := by exact rfl)
    (h : ∀ v' a' w', Tm a' n ((d, v') :: ts) → MemE (SlE e 1 v' (l ++ l2).length ((l ++ l2).map bv)) c m bs w' → wpList P ops Q rest a' w') :
    wpList P ops Q (⟨some d, .call { callee := .builtin .append, args := #[s, x], argTypes := #[t, t] }, ty, pos, af, none⟩ :: rest) a w := by
  obtain ⟨de, ii, z, hde, hinfo, hz, _, _, _, _, _, hel', _, hsl', _⟩ := tyOf_spec (S.ty _ _ hy)
  obtain ⟨de2, i2, z2, hde2, hinfo2, hz2, _, hsz2, hby2, hzz2, _⟩ := tyOf_spec (S.ty _ _ hy2)
  rw [hel] at hel'
  rw [hsl] at hsl'
  obtain ⟨rfl, _, hc2⟩ := hnews
  cases de with
  | slice el =>
    simp only at hel'
    cases hq : P.info? el with
    | none =>
      rw [hq] at hel'
      simp at hel'
    | some q =>
      rw [hq] at hel'
      simp only [Prod.mk.injEq] at hel'
      obtain ⟨rfl, hs1⟩ := hel'
      rw [hinfo2] at hq
      simp at hq
      subst hq
      have hzs : z2.cells.size = 1 := by rw [← Array.length_toList, ← hzz2]; exact hz1
      refine wpList_plain rfl fun K hK => wp_append_Own w s x t rfl 0 e i2 z2 1 1 hde hinfo2 hz2 hs1.symm (by omega) hzs (by omega) v l.length (l.map bv) (T.eval hs) F.ext ad l2.length cp (l2.map bv) (T.eval hx) (by simp) hc2 (bv_one l2) (by omega) (by omega) (Nat.zero_le _) ?_
      intro a' cap' w' h1 h2 h3
      have e1 : l.length + l2.length = (l ++ l2).length := by simp
      have e2 : l.map bv ++ l2.map bv = (l ++ l2).map bv := by simp
      rw [e2] at h1
      rw [e1] at h1 h3 ⊢
      exact hK _ _ (h _ _ _ (T.put (by simpa [Nat.blt_eq] using hd) _) (F.grown h2 h1 h3))
  | _ => simp at hsl'

/-- a slice literal of elements of one cell -/
theorem new_slice [S : Seat P tab fl] {t e : TypeId} {len : Nat} {parts : List (Nat × Operand)} {y ye : Ty} {z0 : Value} {K : List Value → Prop} (T : Tm a n ts) (hy : getY tab t = some y) (hel : y.elem = (e, 1)) (hsl : y.isSl = true) (hye : getY tab e = some ye) (hz0 : ye.zero = [z0]) (hlen : Nat.ble len 1000 = true)
    (h : fillK ts (List.range len) (List.replicate len 1) parts (List.replicate len z0) K) :
    ∃ cs, (∀ d' pos af gd, (execOp a.eval ⟨d', .buildSlice t len parts.toArray, ty, pos, af, gd⟩).run P w = .ok (.value (.slice (some ⟨w.heap.size, 0, none⟩) len len)) (w.alloc (.cells cs.toArray e (0, 0)))) ∧ K cs := by
  have hle : len ≤ 1000 := by simpa using hlen
  obtain ⟨de, ii, z, hde, hinfo, hz, _, _, _, _, _, hel', _, hsl', _⟩ := tyOf_spec (S.ty _ _ hy)
  obtain ⟨de2, i2, z2, hde2, hinfo2, hz2, _, hsz2, hby2, hzz2, _⟩ := tyOf_spec (S.ty _ _ hye)
  rw [hel] at hel'
  rw [hsl] at hsl'
  cases de with
  | slice el =>
    simp only at hel'
    cases hq : P.info? el with
    | none =>
      rw [hq] at hel'
      simp at hel'
    | some q =>
      rw [hq] at hel'
      simp only [Prod.mk.injEq] at hel'
      obtain ⟨rfl, hs1⟩ := hel'
      rw [hinfo2] at hq
      simp at hq
      subst hq
      obtain ⟨cs, hf, hk⟩ := fill_run T (List.range len) (List.replicate len 1) (fun i => some (i * 1, 1)) (fun i o s ho hs => by
        obtain ⟨h1, h2⟩ := List.getElem?_eq_some_iff.1 ho
        obtain ⟨h3, h4⟩ := List.getElem?_eq_some_iff.1 hs
        simp at h2 h4
        subst h2 h4
        simp) parts _ K h
      refine ⟨cs, fun d' pos af gd => ?_, hk⟩
      have hzc : z2.cells = #[z0] := by
        have : z2.cells.toList = [z0] := by rw [← hzz2]; exact hz0
        rw [← Array.toArray_toList (xs := z2.cells), this]
      by_cases hp : len = 0
      · subst hp
        have hf' : Instr.fill (fun i => some (i * 1, 1)) #[] (parts.map fun p => (p.1, a.eval p.2)) = some cs.toArray := hf
        simp only [Nat.mul_one] at hf'
        have e0 : (Array.map (fun _ => (default : Value)) (Array.range 0)) = #[] := by simp
        simp [execOp, Instr.buildSlice, run_underlying hde, sizeOf, typeInfo, hinfo2, ← hs1, newRow, newObj]
        rw [e0, hf']
        rfl
      · have hcs : ((Array.range (len * i2.size)).map (z2.cells[· % z2.cells.size]!)) = (List.replicate len z0).toArray := by
          rw [← hs1, Nat.mul_one, hzc]
          apply Array.ext
          · simp
          · intro i h1 h2
            simp [Nat.mod_one]
        have hr := run_buildSlice (P := P) w t e len (parts.map fun p => (p.1, a.eval p.2)).toArray cs.toArray i2 z2 hde hinfo2 hz2 (by rw [← hs1]; omega) (by rw [← hs1]; omega) (by rw [hcs, ← hs1]; exact hf)
        simp only [execOp, List.map_toArray, Sem.run_bind, hr, Result.andThen_ok, Sem.run_pure]
  | _ => simp at hsl'
theorem st_buildSlice [S : Seat P tab fl] {d : Nat} {t e : TypeId} {len : Nat} {parts : List (Nat × Operand)} {y ye : Ty} {z0 : Value} (T : Tm a n ts) (F : MemE E c m bs w) (hd : Nat.blt d n = true := by exact rfl) (hy : getY tab t = some y := by exact rfl) (hel : y.elem = (e, 1) := by exact rfl) (hsl : y.isSl = true := by exact rfl) (hye : getY tab e = some ye := by exact rfl) (hz0 : ye.zero = [z0] := by exact rfl) (hlen : Nat.ble len 1000 = true := by exact rfl)
    (h : fillK ts (List.range len) (List.replicate len 1) parts (List.replicate len z0) fun cs => ∀ a' g w', Tm a' n ((d, .slice (some ⟨g, 0, none⟩) len len) :: ts) → MemE E c m (⟨g, cs, e⟩ :: bs) w' → wpList P ops Q rest a' w') :
    wpList P ops Q (⟨some d, .buildSlice t len parts.toArray, ty, pos, af, none⟩ :: rest) a w := by
  obtain ⟨cs, h1, h2⟩ := new_slice (ty := ty) (w := w) (P := P) T hy hel hsl hye hz0 hlen h
  refine wpList_plain rfl fun K hK => ?_
  unfold Oper.wp
  rw [h1]
  exact hK _ _ (h2 _ _ _ (T.put (by simpa [Nat.blt_eq] using hd) _) (F.alloc cs e))
theorem sx_buildSlice [S : Seat P tab fl] {d : Nat} {t e : TypeId} {len : Nat} {parts : List (Nat × Operand)} {y ye : Ty} {z0 : Value} (hi' : nthO ops i = some ⟨some d, .buildSlice t len parts.toArray, ty, pos, af, none⟩ := by exact rfl) (T : Tm a n ts) (F : MemE E c m bs w) (hd : Nat.blt d n = true := by exact rfl) (hy : getY tab t = some y := by exact rfl) (hel : y.elem = (e, 1) := by exact rfl) (hsl : y.isSl = true := by exact rfl) (hye : getY tab e = some ye := by exact rfl) (hz0 : ye.zero = [z0] := by exact rfl) (hlen : Nat.ble len 1000 = true := by exact rfl)
    (h : fillK ts (List.range len) (List.replicate len 1) parts (List.replicate len z0) fun cs => ∀ a' g w', Tm a' n ((d, .slice (some ⟨g, 0, none⟩) len len) :: ts) → MemE E c m (⟨g, cs, e⟩ :: bs) w' → wpUx P X ops Q r w'.heap.size w' a' w') : wpUx P X ops Q (.h i r) w.heap.size w a w := by
  obtain ⟨cs, h1, h2⟩ := new_slice (ty := ty) (w := w) (P := P) T hy hel hsl hye hz0 hlen h
  refine sx_hole hi' rfl fun K hK => wpList_plain rfl fun K' hK' => ?_
  unfold Oper.wp
  rw [h1]
  exact hK' _ _ (atK (hK _ _ (belowX (balloc _ _)) (h2 _ _ _ (T.put (by simpa [Nat.blt_eq] using hd) _) (F.alloc cs e))))
end
end Sy
end Go.Proofs.YtohhjbfkgokopaaDoor
