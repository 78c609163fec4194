/- Slices of the call's own beside what else is known: begun, appended to by elements of many cells, stored to; slice literals of one struct. Over any program. No condition. -/
import Derived.Test.YtohhjbfkgokopaaDoorSyS
import Derived.Test.YtohhjbfkgokopaaDoorLike
namespace Go.Proofs.YtohhjbfkgokopaaDoor
open Go.RowKit
set_option linter.unusedVariables false
set_option linter.unusedSimpArgs false
namespace Sy
/-- what E1 says, and a slice that the call owns -/
def SlA (E1 : Ext) (e : TypeId) (size : Nat) (v : Value) (n : Nat) (xs : List Value) : Ext where
  S k := E1.S k ∨ blk v = some k
  R w := E1.R w ∧ Own w 0 e size v n xs ∧ ∀ k, blk v = some k → ¬ E1.S k
  stab w w' h hr := ⟨E1.stab w w' (fun k hk => h k (.inl hk)) hr.1, (SlE e size v n xs).stab w w' (fun k hk => h k (.inr hk)) hr.2.1, hr.2.2⟩
  dom w k hr hk := by
    rcases hk with hk | hk
    · exact E1.dom w k hr.1 hk
    · exact (hr.2.1.lt k hk).2
theorem blk_zero (a : Option Addr) (k : Nat) : ¬ blk (.slice a 0 0) = some k := by cases a <;> simp [blk]
section
variable {E E1 : Ext} {c : Cx} {m w : World} {bs : List Blk}
theorem MemE.slA0 (F : MemE E c m bs w) (e : TypeId) (size : Nat) (a : Option Addr) : MemE (SlA E e size (.slice a 0 0) 0 []) c m bs w :=
  ⟨F.kept, F.sub0, F.sub, F.fresh, F.own, F.nodup, ⟨F.ext, Own.empty w 0 e size a, fun k hk => (blk_zero a k hk).elim⟩, fun k hk => by
    rcases hk with hk | hk
    · exact F.loose k hk
    · exact (blk_zero a k hk).elim⟩
/-- a slice that a call has handed back -/
theorem MemE.slAcall (F : MemE E c m bs w) {w' : World} (hb : Below w.heap.size w w') {e : TypeId} {size : Nat} {v : Value} {n : Nat} {xs : List Value} (ho : Own w' w.heap.size e size v n xs) : MemE (SlA E e size v n xs) c m bs w' := by
  have F' := F.below hb
  refine ⟨F'.kept, F'.sub0, F'.sub, F'.fresh, F'.own, F'.nodup, ⟨F'.ext, ho.base (Nat.zero_le _), fun k hk hs => ?_⟩, fun k hk => ?_⟩
  · have h1 := (ho.lt k hk).1
    have h2 := E.dom w k F.ext hs
    omega
  · rcases hk with hk | hk
    · exact F'.loose k hk
    · have h1 := (ho.lt k hk).1
      refine ⟨.inl (Nat.le_trans F.size h1), fun hm => ?_, fun i s => cell_none F.sub h1 i s⟩
      obtain ⟨b, hbm, he⟩ := List.mem_map.1 hm
      have := F.lt hbm
      omega
theorem MemE.grownA {e e' : TypeId} {size size' : Nat} {v v' : Value} {n n' : Nat} {xs xs' : List Value} (F : MemE (SlA E1 e size v n xs) c m bs w) {w' : World} (hg : w.grownBy w' (blk v)) (ho : Own w' 0 e' size' v' n' xs') (hb : blk v' = blk v ∨ ∃ k, blk v' = some k ∧ w.heap.size ≤ k) : MemE (SlA E1 e' size' v' n' xs') c m bs w' := by
  have hlt : ∀ b ∈ bs, b.adr < w.heap.size := fun b hb => F.lt hb
  have hne : ∀ b ∈ bs, some b.adr ≠ blk v := fun b hb hbv => (F.loose b.adr (.inr hbv.symm)).2.1 (List.mem_map_of_mem hb)
  have hE : ∀ k, E1.S k → w'.heap[k]? = w.heap[k]? := fun k hk => hg.block k (E1.dom w k F.ext.1 hk) (fun h => F.ext.2.2 k h.symm hk)
  refine ⟨⟨hg.os.trans F.kept.os, hg.tape.trans F.kept.tape, hg.output.trans F.kept.output, Nat.le_trans F.kept.size hg.size, fun k hk hx => ?_⟩, F.sub0, fun p u hu => ?_, F.fresh, fun b hb => ⟨(F.own b hb).1, ?_, (F.own b hb).2.2⟩, F.nodup, ⟨E1.stab w w' hE F.ext.1, ho, fun k hk hs => ?_⟩, fun k hk => ?_⟩
  · rw [hg.block k (Nat.lt_of_lt_of_le hk F.kept.size) (fun h => by
      have := (F.loose k (.inr h.symm)).1
      rcases this with h1 | h1
      · omega
      · exact hx h1)]
    exact F.kept.block k hk hx
  · have h1 := F.sub p u hu
    have hpl := World.block_lt_of_cell? w _ h1
    rw [World.cell?_of_block (w := w) (hg.block p.block hpl (fun h => by
      have := (F.loose p.block (.inr h.symm)).2.2 p.off p.spot
      rw [hu] at this
      cases this))]
    exact h1
  · rw [hg.block _ (hlt b hb) (hne b hb)]; exact (F.own b hb).2.1
  · rcases hb with hb | ⟨k2, hb, hk2⟩
    · exact F.ext.2.2 k (hb.symm.trans hk) hs
    · rw [hb] at hk
      simp at hk
      subst hk
      have := E1.dom w k2 F.ext.1 hs
      omega
  · rcases hk with hk | hk
    · exact F.loose k (.inl hk)
    rcases hb with hb | ⟨k2, hb, hk2⟩
    · exact F.loose k (.inr (hb.symm.trans hk))
    · rw [hb] at hk
      simp at hk
      subst hk
      refine ⟨.inl (Nat.le_trans F.size hk2), fun hm => ?_, fun i s => cell_none F.sub hk2 i s⟩
      obtain ⟨b, hbm, he⟩ := List.mem_map.1 hm
      have := hlt b hbm
      omega
end
section
variable {E E1 : Ext} {P : Program} {tab : List (Nat × Ty)} {fl : List Nat} {a : Act} {n : Nat} {ts : List (Nat × Value)} {w : World} {ty : TypeId} {pos : String} {af : Array Edge}
  {ops : Array Oper} {Q : Exit → Act → World → Prop} {rest : List Oper} {c : Cx} {m : World} {bs bs' : List Blk} {X : List Nat} {r : Ot} {i : Nat}
/-- elements of s cells appended to what the call owns -/
theorem st_appendC [S : Seat P tab fl] {d : Nat} {s x : Operand} {t e : TypeId} {v : Value} {k : Nat} {xs : List Value} {ad : Option Addr} {k2 cp : Nat} {news : List Value} {sz : Nat} {y y2 : Ty} (T : Tm a n ts) (F : MemE (SlA E1 e sz v k xs) c m bs w)
    (hnews : Cells w ad news) (hlen : news.length = k2 * sz) (hone : ∀ u ∈ news, u.oneCell' = true) (hs : ev ts s = some v := by exact rfl) (hx : ev ts x = some (.slice ad k2 cp) := by exact rfl) (hd : Nat.blt d n = true := by exact rfl)
    (hy : getY tab t = some y := by exact rfl) (hel : y.elem = (e, sz) := by exact rfl) (hy2 : getY tab e = some y2 := by exact rfl) (hz1 : y2.zero.length = sz := by exact rfl) (hsl : y.isSl = true := by exact rfl) (h0 : Nat.blt 0 sz = true := by exact rfl) (hb0 : Nat.blt 0 y2.bytes = true := by exact rfl)
    (hbytes : (k + k2) * y2.bytes ≤ 140737488355328)
    (h : ∀ ad' cap' a' w', Tm a' n ((d, .slice ad' (k + k2) cap') :: ts) → MemE (SlA E1 e sz (.slice ad' (k + k2) cap') (k + k2) (xs ++ news)) c m bs w' → wpList P ops Q rest a' w') :
    wpList P ops Q (⟨some d, .call { callee := .builtin .append, args := #[s, x], argTypes := #[t, t] }, ty, pos, af, none⟩ :: rest) a w := by
  have h0' : 0 < sz := by simpa [Nat.blt_eq] using h0
  have hb0' : 0 < y2.bytes := by simpa [Nat.blt_eq] using hb0
  obtain ⟨de, ii, z, hde, hinfo, hz, _, _, _, _, _, hel', _, hsl', _⟩ := tyOf_spec (S.ty _ _ hy)
  obtain ⟨de2, i2, z2, hde2, hinfo2, hz2, _, hsz2, hby2, hzz2, _⟩ := tyOf_spec (S.ty _ _ hy2)
  rw [hel] at hel'
  rw [hsl] at hsl'
  cases de with
  | slice el =>
    simp only at hel'
    cases hq : P.info? el with
    | none =>
      rw [hq] at hel'
      simp at hel'
      omega
    | some q =>
      rw [hq] at hel'
      simp only [Prod.mk.injEq] at hel'
      obtain ⟨rfl, hs1⟩ := hel'
      rw [hinfo2] at hq
      simp at hq
      subst hq
      have hzs : z2.cells.size = sz := by rw [← Array.length_toList, ← hzz2]; exact hz1
      refine wpList_plain rfl fun K hK => wp_append_Own w s x t rfl 0 e i2 z2 sz y2.bytes hde hinfo2 hz2 hs1.symm (by omega) hzs h0' v k xs (T.eval hs) F.ext.2.1 ad k2 cp news (T.eval hx) hlen hnews hone hbytes hb0' (Nat.zero_le _) ?_
      intro ad' cap' w' h1 h2 h3
      exact hK _ _ (h _ _ _ _ (T.put (by simpa [Nat.blt_eq] using hd) _) (F.grownA h2 h1 h3))
  | _ => simp at hsl'

/-- a slice literal of one struct -/
theorem new_sliceR [S : Seat P tab fl] {t e : TypeId} {x : Operand} {y ye : Ty} {s : Nat} {K : List Value → Prop} (T : Tm a n ts) (hy : getY tab t = some y) (hel : y.elem = (e, s)) (hsl : y.isSl = true) (hye : getY tab e = some ye) (hs : ye.zero.length = s) (hlen : Nat.ble s 1000 = true) (h0 : Nat.blt 0 s = true)
    (h : fillK ts [0] [s] [(0, x)] ye.zero K) :
    ∃ cs, (∀ d' pos af gd, (execOp a.eval ⟨d', .buildSlice t 1 #[(0, x)], ty, pos, af, gd⟩).run P w = .ok (.value (.slice (some ⟨w.heap.size, 0, none⟩) 1 1)) (w.alloc (.cells cs.toArray e (0, 0)))) ∧ K cs := by
  have hle : s ≤ 1000 := by simpa using hlen
  have h0' : 0 < s := by simpa [Nat.blt_eq] using h0
  obtain ⟨de, ii, z, hde, hinfo, hz, _, _, _, _, _, hel', _, hsl', _⟩ := tyOf_spec (S.ty _ _ hy)
  obtain ⟨de2, i2, z2, hde2, hinfo2, hz2, _, hsz2, hby2, hzz2, _⟩ := tyOf_spec (S.ty _ _ hye)
  rw [hel] at hel'
  rw [hsl] at hsl'
  cases de with
  | slice el =>
    simp only at hel'
    cases hq : P.info? el with
    | none =>
      rw [hq] at hel'
      simp at hel'
      omega
    | some q =>
      rw [hq] at hel'
      simp only [Prod.mk.injEq] at hel'
      obtain ⟨rfl, hs1⟩ := hel'
      rw [hinfo2] at hq
      simp at hq
      subst hq
      obtain ⟨cs, hf, hk⟩ := fill_run T [0] [s] (fun i => some (i * i2.size, i2.size)) (fun i o s' ho hs' => by
        cases i with
        | zero =>
          simp at ho hs'
          subst ho hs'
          simp [hs1]
        | succ i => simp at ho) [(0, x)] _ K h
      refine ⟨cs, fun d' pos af gd => ?_, hk⟩
      have hzz : z2.cells = ye.zero.toArray := by rw [hzz2, Array.toArray_toList]
      have hzs : z2.cells.size = s := by rw [← Array.length_toList, ← hzz2]; exact hs
      have hcs : ((Array.range (1 * i2.size)).map (z2.cells[· % z2.cells.size]!)) = ye.zero.toArray := by
        rw [← hzz]
        apply Array.ext
        · simp; omega
        · intro j h1 h2
          simp only [Array.getElem_map, Array.getElem_range]
          rw [Nat.mod_eq_of_lt h2]
          simp [h2]
      have hr := run_buildSlice (P := P) w t e 1 ([(0, x)].map fun p => (p.1, a.eval p.2)).toArray cs.toArray i2 z2 hde hinfo2 hz2 (by omega) (by omega) (by rw [hcs]; exact hf)
      simp only [execOp, List.map_toArray, Sem.run_bind, Result.andThen_ok, Sem.run_pure] at hr ⊢
      rw [hr]
      rfl
  | _ => simp at hsl'
theorem st_buildSliceR [S : Seat P tab fl] {d : Nat} {t e : TypeId} {x : Operand} {y ye : Ty} {s : Nat} (T : Tm a n ts) (F : MemE E c m bs w) (hd : Nat.blt d n = true := by exact rfl) (hy : getY tab t = some y := by exact rfl) (hel : y.elem = (e, s) := by exact rfl) (hsl : y.isSl = true := by exact rfl) (hye : getY tab e = some ye := by exact rfl) (hs : ye.zero.length = s := by exact rfl) (hlen : Nat.ble s 1000 = true := by exact rfl) (h0 : Nat.blt 0 s = true := by exact rfl)
    (h : fillK ts [0] [s] [(0, x)] ye.zero fun cs => ∀ a' g w', Tm a' n ((d, .slice (some ⟨g, 0, none⟩) 1 1) :: ts) → MemE E c m (⟨g, cs, e⟩ :: bs) w' → wpList P ops Q rest a' w') :
    wpList P ops Q (⟨some d, .buildSlice t 1 #[(0, x)], ty, pos, af, none⟩ :: rest) a w := by
  obtain ⟨cs, h1, h2⟩ := new_sliceR (ty := ty) (w := w) (P := P) T hy hel hsl hye hs hlen h0 h
  refine wpList_plain rfl fun K hK => ?_
  unfold Oper.wp
  rw [h1]
  exact hK _ _ (h2 _ _ _ (T.put (by simpa [Nat.blt_eq] using hd) _) (F.alloc cs e))

/-- a whole number stored to a place of what the call owns -/
theorem st_storeSl [S : Seat P tab fl] {t : TypeId} {x z : Operand} {y : Ty} {kk : IntKind} {u : Int} {g j k cap : Nat} {e : TypeId} {xs : List Value} (T : Tm a n ts) (F : MemE (SlA E1 e 1 (.slice (some ⟨g, 0, none⟩) k cap) k xs) c m bs w) (hj : j < k) (hx : ev ts x = some (.pointer (some ⟨g, j, none⟩)) := by exact rfl)
    (hz : ev ts z = some (.int kk u) := by exact rfl) (hy : getY tab t = some y := by exact rfl) (hl : y.size = 1 := by exact rfl)
    (h : ∀ a' w', Tm a' n ts → MemE (SlA E1 e 1 (.slice (some ⟨g, 0, none⟩) k cap) k (xs.set j (.int kk u))) c m bs w' → wpList P ops Q rest a' w') : wpList P ops Q (⟨none, .store t x z, ty, pos, af, none⟩ :: rest) a w := by
  obtain ⟨hE1, ⟨ad, cap', hv, hxl, hn, hm, hcase⟩, hdj⟩ := F.ext
  simp at hv
  obtain ⟨rfl, rfl⟩ := hv
  have hb : blk (.slice (some ⟨g, 0, none⟩) k cap) = some g := blk_pos k j (by omega)
  rcases hcase with hc0 | ⟨g', cur, hg', _, hcell, hcsz, htk⟩
  · omega
  simp at hg'
  subst hg'
  have hlt : j < cur.size := by omega
  have hhg : w.heap[g]? = some (.cells cur.toList.toArray e (0, 0)) := by simpa using hcell
  have hth := there_of hhg (o := j) (n := 1) (by simp; omega)
  have hst := run_storeCells_cells (P := P) g j [.int kk u] 0 w (fun j' hj' => by simpa using (hth j' hj').1) (fun j' hj' => by simpa using (hth j' hj').2) (fun u hu => by simp at hu; subst hu; rfl)
  have hsz := run_sizeOf_y (S.ty _ _ hy) w
  rw [hl] at hsz
  obtain ⟨r1, r2, r3, r4⟩ := setCells_rest (b := g) [.int kk u] j w
  have hov := setCells_over [.int kk u] j cur.toList w (by simp; omega) hhg
  have hoth : ∀ q, q ≠ g → (w.setCells g j [.int kk u]).heap[q]? = w.heap[q]? := fun q hq => setCells_heap_other _ j w q hq
  have hloose := F.loose g (.inr hb)
  rw [overL_one _ _ _ (by simpa using hlt)] at hov
  have F2 : MemE (SlA E1 e 1 (.slice (some ⟨g, 0, none⟩) k cap) k (xs.set j (.int kk u))) c m bs (w.setCells g j [.int kk u]) := by
    refine ⟨⟨r1.trans F.kept.os, r2.trans F.kept.tape, r3.trans F.kept.output, by rw [r4]; exact F.kept.size, fun q hq hnx => ?_⟩, F.sub0, fun p v ep => ?_, F.fresh, fun b hbm => ?_, F.nodup, ⟨E1.stab w _ (fun q hq => hoth q (fun eq => hdj g hb (eq ▸ hq))) hE1, ⟨_, cap, rfl, by rw [List.length_set]; exact hxl, hn, hm, .inr ⟨g, _, rfl, Nat.zero_le _, hov, by simpa using hcsz, ?_⟩⟩, hdj⟩, F.loose⟩
    · rw [hoth q (fun eq => by
        subst eq
        rcases hloose.1 with hg | hg
        · omega
        · exact hnx hg)]
      exact F.kept.block q hq hnx
    · have hp : p.block ≠ g := fun e' => by
        have := hloose.2.2 p.off p.spot
        obtain ⟨pb, po, ps⟩ := p
        subst e'
        rw [this] at ep
        cases ep
      rw [World.cell?_of_block (hoth _ hp)]
      exact F.sub p v ep
    · have hne : b.adr ≠ g := fun e => hloose.2.1 (List.mem_map.2 ⟨b, hbm, e⟩)
      have h := F.own b hbm
      exact ⟨h.1, by rw [hoth _ hne]; exact h.2.1, h.2.2⟩
    · rw [← htk]
      simp [List.take_set]
  refine wpList_plain rfl fun K hK => ?_
  unfold Oper.wp
  have hrun : (execOp a.eval ⟨none, .store t x z, ty, pos, af, none⟩).run P w = .ok .skip (w.setCells g j [.int kk u]) := by
    simp only [Nat.add_zero] at hst
    simp [execOp, T.eval hx, T.eval hz, Instr.storeAt, Instr.sureAddr, storeVar, Value.cells, hsz, hst]
  rw [hrun]
  exact hK _ _ (h _ _ (T.skip _) F2)
end
end Sy
end Go.Proofs.YtohhjbfkgokopaaDoor
