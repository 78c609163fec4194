/- A slice of the call's own, no more written to, counted to the memory that stands still. Over any program. No condition. Slices cut, and appends and slice literals in a drawn region. Over any program. No condition. -/
import Derived.Test.YtohhjbfkgokopaaDoorSyT
namespace Go.Proofs.YtohhjbfkgokopaaDoor
open Go.RowKit
set_option linter.unusedVariables false
set_option linter.unusedSimpArgs false
namespace Sy
/-- m, and the block g of w -/
def frz (m w : World) (g : Nat) : World := { w with heap := ((List.range w.heap.size).map fun i => if i = g then (w.heap[i]?).getD (.cells #[] 0 (0, 0)) else (m.heap[i]?).getD (.cells #[] 0 (0, 0))).toArray }
theorem frz_heap (m w : World) (g i : Nat) (h : i < w.heap.size) : (frz m w g).heap[i]? = some (if i = g then (w.heap[i]?).getD (.cells #[] 0 (0, 0)) else (m.heap[i]?).getD (.cells #[] 0 (0, 0))) := by
  simp [frz, h]
theorem frz_at {m w : World} {g : Nat} (hg : g < w.heap.size) : (frz m w g).heap[g]? = w.heap[g]? := by
  rw [frz_heap m w g g hg, if_pos rfl]
  simp [hg]
theorem frz_cell {m w : World} {g : Nat} (p : Addr) (hp : p.block ≠ g) (hlt : p.block < w.heap.size) : (frz m w g).cell? p = m.cell? p := by
  have := frz_heap m w g p.block hlt
  rw [if_neg hp] at this
  unfold World.cell?
  rw [this]
  cases hm : m.heap[p.block]? with
  | none => simp
  | some o => simp
theorem frz_out {m w : World} {g : Nat} (p : Addr) {u : Value} (h : (frz m w g).cell? p = some u) : p.block < w.heap.size := by
  have := World.block_lt_of_cell? _ _ h
  simpa [frz] using this
theorem MemE.freezeX {E1 : Ext} {c : Cx} {m w : World} {bs : List Blk} {e : TypeId} {size : Nat} {v : Value} {n : Nat} {xs : List Value} (F : MemE (SlA E1 e size v n xs) c m bs w) (hw : ∀ k, blk v = some k → c.W.heap.size ≤ k) :
    ∃ m', Sub m m' ∧ MemE E1 c m' bs w ∧ ∀ a cap, v = .slice a n cap → Cells m' a xs := by
  obtain ⟨hE1, ho, hdj⟩ := F.ext
  obtain ⟨a, cap, rfl, hxl, hn, hm, hcase⟩ := ho
  by_cases h0 : cap = 0
  · refine ⟨m, Sub.refl m, ⟨F.kept, F.sub0, F.sub, F.fresh, F.own, F.nodup, hE1, fun k hk => F.loose k (.inl hk)⟩, fun a' cap' hv => ?_⟩
    have : xs = [] := List.eq_nil_of_length_eq_zero (by rw [hxl]; have : n = 0 := by omega
                                                        rw [this]; simp)
    exact .inl this
  · rcases hcase with hc | ⟨g, cur, rfl, _, hcell, hcsz, htk⟩
    · exact (h0 hc).elim
    have hb : blk (.slice (some ⟨g, 0, none⟩) n cap) = some g := blk_of h0 rfl
    have hgl : g < w.heap.size := (Array.getElem?_eq_some_iff.1 hcell).1
    have hl := F.loose g (.inr hb)
    have hWg : c.W.heap.size ≤ g := hw g hb
    have hmm : Sub m (frz m w g) := fun p u hu => by
      have hp : p.block ≠ g := fun e' => by
        have := hl.2.2 p.off p.spot
        obtain ⟨pb, po, ps⟩ := p
        subst e'
        rw [this] at hu
        cases hu
      rw [frz_cell p hp (World.block_lt_of_cell? w _ (F.sub p u hu))]
      exact hu
    have hmw : Sub (frz m w g) w := fun p u hu => by
      by_cases hp : p.block = g
      · rw [World.cell?_of_block (w := w) (by rw [hp]; exact frz_at hgl)] at hu
        exact hu
      · rw [frz_cell p hp (frz_out p hu)] at hu
        exact F.sub p u hu
    have hnone : ∀ k, k ≠ g → (∀ i s, m.cell? ⟨k, i, s⟩ = none) → ∀ i s, (frz m w g).cell? ⟨k, i, s⟩ = none := fun k hk hm i s => by
      cases hu : (frz m w g).cell? ⟨k, i, s⟩ with
      | none => rfl
      | some u =>
        have h1 := frz_out _ hu
        rw [frz_cell _ hk h1, hm i s] at hu
        cases hu
    refine ⟨frz m w g, hmm, ⟨F.kept, fun p u hu => hmm p u (F.sub0 p u hu), hmw, fun p u hp hu => ?_, fun b hbm => ?_, F.nodup, hE1, fun k hk => ?_⟩, fun a' cap' hv => ?_⟩
    · have hpg : p.block ≠ g := by
        have : p.block < c.W.heap.size := hp
        omega
      rw [frz_cell p hpg (frz_out p hu)] at hu
      exact F.fresh p u hp hu
    · have h := F.own b hbm
      exact ⟨h.1, h.2.1, hnone _ (fun e => hl.2.1 (List.mem_map.2 ⟨b, hbm, e⟩)) h.2.2⟩
    · have h := F.loose k (.inl hk)
      exact ⟨h.1, h.2.1, hnone _ (fun e => hdj g hb (e ▸ hk)) h.2.2⟩
    · simp at hv
      obtain ⟨rfl, rfl⟩ := hv
      refine .inr ⟨g, 0, rfl, fun i hi => ?_⟩
      have hfg : (frz m w g).cell? ⟨g, 0 + i, none⟩ = w.cell? ⟨g, 0 + i, none⟩ := World.cell?_of_block (frz_at hgl)
      rw [hfg]
      have hi2 : i < n * size := by rw [← hxl]; exact hi
      have h1 : cur[i]? = xs[i]? := by
        rw [← htk, List.getElem?_take_of_lt hi2]
        simp
      rw [List.getElem?_eq_getElem hi] at h1
      rw [Nat.zero_add]
      simp [World.cell?, hcell, h1]
theorem MemE.freeze {E1 : Ext} {W m0 m w : World} {bs : List Blk} {e : TypeId} {size : Nat} {v : Value} {n : Nat} {xs : List Value} (F : MemE (SlA E1 e size v n xs) ⟨W, [], m0⟩ m bs w) :
    ∃ m', Sub m m' ∧ MemE E1 ⟨W, [], m0⟩ m' bs w ∧ ∀ a cap, v = .slice a n cap → Cells m' a xs := F.freezeX fun k hk => (F.loose k (.inr hk)).1.resolve_right (by simp)
theorem MemE.takeSl {E : Ext} {c : Cx} {m w : World} {bs r : List Blk} {g : Nat} {cs : List Value} {e : TypeId} {size n : Nat} (F : MemE E c m bs w) (h : Take bs g cs e r) (hl : cs.length = n * size) (hn : n ≤ maxLen) : MemE (SlA E e size (.slice (some ⟨g, 0, none⟩) n n) n cs) c m r w := by
  have F' := F.perm h.perm
  have ho := F'.own ⟨g, cs, e⟩ (List.mem_cons_self ..)
  have hnd := List.nodup_cons.1 F'.nodup
  have hblk : ∀ k, blk (.slice (some ⟨g, 0, none⟩) n n) = some k → k = g := fun k hk => by
    cases n with
    | zero => exact (blk_zero _ k hk).elim
    | succ n => simp [blk] at hk; exact hk.symm
  refine ⟨F'.kept, F'.sub0, F'.sub, F'.fresh, fun b hb => F'.own b (List.mem_cons_of_mem _ hb), hnd.2, ⟨F'.ext, ⟨_, n, rfl, hl, Nat.le_refl _, hn, .inr ⟨g, cs.toArray, rfl, Nat.zero_le _, ho.2.1, by simpa using hl, ?_⟩⟩, fun k hk hs => ?_⟩, fun k hk => ?_⟩
  · rw [← hl]; simp
  · rw [hblk k hk] at hs
    exact (F'.loose g hs).2.1 (by simp)
  · rcases hk with hk | hk
    · have := F'.loose k hk
      exact ⟨this.1, fun hm => this.2.1 (by simp only [List.map_cons]; exact List.mem_cons_of_mem _ hm), this.2.2⟩
    · rw [hblk k hk]
      exact ⟨ho.1, hnd.1, ho.2.2⟩
end Sy
end Go.Proofs.YtohhjbfkgokopaaDoor
namespace Go.Proofs.YtohhjbfkgokopaaDoor
open Go.RowKit
set_option linter.unusedVariables false
set_option linter.unusedSimpArgs false
namespace Sy
theorem cells_lo {w : World} {ad : Option Addr} {xs ys : List Value} (c s : Nat) (h : Cells w ad (xs ++ ys)) : Cells w (if c = 0 then ad else ad.map (·.add (0 * s))) xs := by
  rcases h with h | ⟨b, o, ha, hc⟩
  · simp at h
    exact .inl h.1
  · subst ha
    refine .inr ⟨b, o, ?_, fun i hi => ?_⟩
    · split
      · rfl
      · simp [addr_add]
    · have := hc i (by simp; omega)
      rw [this, List.getElem_append_left hi]
theorem cells_hi {w : World} {ad : Option Addr} {xs ys : List Value} (c l s : Nat) (hl : xs.length = l * s) (hne : ys ≠ [] → c ≠ l) (h : Cells w ad (xs ++ ys)) : Cells w (if c = l then ad else ad.map (·.add (l * s))) ys := by
  by_cases hy : ys = []
  · exact .inl hy
  · rcases h with h | ⟨b, o, ha, hc⟩
    · simp at h
      exact (hy h.2).elim
    · subst ha
      rw [if_neg (hne hy)]
      refine .inr ⟨b, o + l * s, by simp [addr_add], fun i hi => ?_⟩
      have := hc (l * s + i) (by simp [hl]; omega)
      rw [Nat.add_assoc, this, List.getElem_append_right (by omega)]
      simp [hl]
section
variable {E E1 : Ext} {P : Program} {tab : List (Nat × Ty)} {fl : List Nat} {a : Act} {n : Nat} {ts : List (Nat × Value)} {w : World} {ty : TypeId} {pos : String} {af : Array Edge}
  {ops : Array Oper} {Q : Exit → Act → World → Prop} {rest : List Oper} {c : Cx} {m : World} {bs bs' : List Blk} {X : List Nat} {r : Ot} {i : Nat}
theorem runs_sliceH [S : Seat P tab fl] {t e : TypeId} {x hi : Operand} {ad : Option Addr} {l cp h s : Nat} {k : IntKind} {y : Ty} (T : Tm a n ts) (hx : ev ts x = some (.slice ad l cp)) (hh : ev ts hi = some (.int k (h : Int))) (hle : h ≤ cp) (hy : getY tab t = some y) (hsl : y.isSl = true) (hel : y.elem = (e, s)) (hs : Nat.blt 0 s = true) :
    Runs P a (.slice t x none (some hi) none) ty w (.slice (if cp = 0 then ad else ad.map (·.add (0 * s))) h cp) := .of fun _ _ _ _ => by
  have hs' : 0 < s := by simpa [Nat.blt_eq] using hs
  obtain ⟨de, ii, z, hde, hinfo, hz, _, _, _, _, _, hel', _, hsl', _⟩ := tyOf_spec (S.ty _ _ hy)
  rw [hel] at hel'
  rw [hsl] at hsl'
  cases de with
  | slice el =>
    simp only at hel'
    cases hq : P.info? el with
    | none => rw [hq] at hel'; simp at hel'; omega
    | some q =>
      rw [hq] at hel'
      simp only [Prod.mk.injEq] at hel'
      obtain ⟨rfl, hs1⟩ := hel'
      have hle' : (h : Int) ≤ (cp : Int) := by omega
      simp [execOp, T.eval hx, T.eval hh, Instr.sliceAt, Instr.slice, run_underlying hde, Instr.sliceBounds, Instr.sliceBound, asIntOf, sizeOf, typeInfo, hq, ← hs1, hle']
      intro hlt
      omega
  | _ => simp at hsl'
theorem runs_sliceL [S : Seat P tab fl] {t e : TypeId} {x lo : Operand} {ad : Option Addr} {l cp h s : Nat} {k : IntKind} {y : Ty} (T : Tm a n ts) (hx : ev ts x = some (.slice ad l cp)) (hh : ev ts lo = some (.int k (h : Int))) (hle : h ≤ l) (hy : getY tab t = some y) (hsl : y.isSl = true) (hel : y.elem = (e, s)) (hs : Nat.blt 0 s = true) :
    Runs P a (.slice t x (some lo) none none) ty w (.slice (if cp = h then ad else ad.map (·.add (h * s))) (l - h) (cp - h)) := .of fun _ _ _ _ => by
  have hs' : 0 < s := by simpa [Nat.blt_eq] using hs
  obtain ⟨de, ii, z, hde, hinfo, hz, _, _, _, _, _, hel', _, hsl', _⟩ := tyOf_spec (S.ty _ _ hy)
  rw [hel] at hel'
  rw [hsl] at hsl'
  cases de with
  | slice el =>
    simp only at hel'
    cases hq : P.info? el with
    | none => rw [hq] at hel'; simp at hel'; omega
    | some q =>
      rw [hq] at hel'
      simp only [Prod.mk.injEq] at hel'
      obtain ⟨rfl, hs1⟩ := hel'
      have hle' : (h : Int) ≤ (l : Int) := by omega
      simp [execOp, T.eval hx, T.eval hh, Instr.sliceAt, Instr.slice, run_underlying hde, Instr.sliceBounds, Instr.sliceBound, asIntOf, sizeOf, typeInfo, hq, ← hs1, hle']
      intro hlt
      omega
  | _ => simp at hsl'
theorem sx_sliceH [S : Seat P tab fl] {d : Nat} {t e : TypeId} {x hi : Operand} {ad : Option Addr} {l cp h s : Nat} {k : IntKind} {y : Ty} (hi' : nthO ops i = some ⟨some d, .slice t x none (some hi) none, ty, pos, af, none⟩) (T : Tm a n ts) (hle : h ≤ cp) (hx : ev ts x = some (.slice ad l cp) := by exact rfl) (hh : ev ts hi = some (.int k (h : Int)) := by exact rfl)
    (hd : Nat.blt d n = true := by exact rfl) (hy : getY tab t = some y := by exact rfl) (hsl : y.isSl = true := by exact rfl) (hel : y.elem = (e, s) := by exact rfl) (hs : Nat.blt 0 s = true := by exact rfl)
    (h2 : ∀ a', Tm a' n ((d, .slice (if cp = 0 then ad else ad.map (·.add (0 * s))) h cp) :: ts) → wpUx P X ops Q r w.heap.size w a' w) : wpUx P X ops Q (.t i r) w.heap.size w a w :=
  sx_plain hi' rfl (sx_val (fun w' _ => runs_sliceH T hx hh hle hy hsl hel hs) T hd h2)
theorem sx_sliceL [S : Seat P tab fl] {d : Nat} {t e : TypeId} {x lo : Operand} {ad : Option Addr} {l cp h s : Nat} {k : IntKind} {y : Ty} (hi' : nthO ops i = some ⟨some d, .slice t x (some lo) none none, ty, pos, af, none⟩) (T : Tm a n ts) (hle : h ≤ l) (hx : ev ts x = some (.slice ad l cp) := by exact rfl) (hh : ev ts lo = some (.int k (h : Int)) := by exact rfl)
    (hd : Nat.blt d n = true := by exact rfl) (hy : getY tab t = some y := by exact rfl) (hsl : y.isSl = true := by exact rfl) (hel : y.elem = (e, s) := by exact rfl) (hs : Nat.blt 0 s = true := by exact rfl)
    (h2 : ∀ a', Tm a' n ((d, .slice (if cp = h then ad else ad.map (·.add (h * s))) (l - h) (cp - h)) :: ts) → wpUx P X ops Q r w.heap.size w a' w) : wpUx P X ops Q (.t i r) w.heap.size w a w :=
  sx_plain hi' rfl (sx_val (fun w' _ => runs_sliceL T hx hh hle hy hsl hel hs) T hd h2)
/-- an empty slice literal, which the call may append to -/
theorem sx_slice0 [S : Seat P tab fl] {d : Nat} {t e : TypeId} {s : Nat} {y : Ty} (hi' : nthO ops i = some ⟨some d, .buildSlice t 0 #[], ty, pos, af, none⟩) (T : Tm a n ts) (F : MemE E c m bs w) (hd : Nat.blt d n = true := by exact rfl) (hy : getY tab t = some y := by exact rfl) (hsl : y.isSl = true := by exact rfl) (hel : y.elem = (e, s) := by exact rfl) (hs : Nat.blt 0 s = true := by exact rfl)
    (h : ∀ a' g w', Tm a' n ((d, .slice (some ⟨g, 0, none⟩) 0 0) :: ts) → MemE (SlA E e s (.slice (some ⟨g, 0, none⟩) 0 0) 0 []) c m bs w' → wpUx P X ops Q r w'.heap.size w' a' w') : wpUx P X ops Q (.h i r) w.heap.size w a w := by
  have hs' : 0 < s := by simpa [Nat.blt_eq] using hs
  obtain ⟨de, ii, z, hde, hinfo, hz, _, _, _, _, _, hel', _, hsl', _⟩ := tyOf_spec (S.ty _ _ hy)
  rw [hel] at hel'
  rw [hsl] at hsl'
  cases de with
  | slice el =>
    simp only at hel'
    cases hq : P.info? el with
    | none => rw [hq] at hel'; simp at hel'; omega
    | some q =>
      rw [hq] at hel'
      simp only [Prod.mk.injEq] at hel'
      obtain ⟨rfl, hs1⟩ := hel'
      have h1 : ∀ d' pos af gd, (execOp a.eval ⟨d', .buildSlice t 0 #[], ty, pos, af, gd⟩).run P w = .ok (.value (.slice (some ⟨w.heap.size, 0, none⟩) 0 0)) (w.alloc (.cells #[] e (0, 0))) := by
        intro d' pos af gd
        simp [execOp, Instr.buildSlice, run_underlying hde, sizeOf, typeInfo, hq, newRow, newObj]
        have e0 : (Array.map (fun _ => (default : Value)) (Array.range 0)) = #[] := by simp
        rw [e0]
        rfl
      refine sx_hole hi' rfl fun K hK => wpList_plain rfl fun K' hK' => ?_
      unfold Oper.wp
      rw [h1]
      have F2 : MemE (SlA E e s (.slice (some ⟨w.heap.size, 0, none⟩) 0 0) 0 []) c m bs (w.alloc (.cells #[] e (0, 0))) := (F.below (balloc _ _)).slA0 e s _
      exact hK' _ _ (atK (hK _ _ (belowX (balloc _ _)) (h _ _ _ (T.put (by simpa [Nat.blt_eq] using hd) _) F2)))
  | _ => simp at hsl'
theorem sx_buildSliceR [S : Seat P tab fl] {d : Nat} {t e : TypeId} {x : Operand} {y ye : Ty} {s : Nat} (hi' : nthO ops i = some ⟨some d, .buildSlice t 1 #[(0, x)], ty, pos, af, none⟩) (T : Tm a n ts) (F : MemE E c m bs w) (hd : Nat.blt d n = true := by exact rfl) (hy : getY tab t = some y := by exact rfl) (hel : y.elem = (e, s) := by exact rfl) (hsl : y.isSl = true := by exact rfl) (hye : getY tab e = some ye := by exact rfl) (hs : ye.zero.length = s := by exact rfl) (hlen : Nat.ble s 1000 = true := by exact rfl) (h0 : Nat.blt 0 s = true := by exact rfl)
    (h : fillK ts [0] [s] [(0, x)] ye.zero fun cs => ∀ a' g w', Tm a' n ((d, .slice (some ⟨g, 0, none⟩) 1 1) :: ts) → MemE E c m (⟨g, cs, e⟩ :: bs) w' → wpUx P X ops Q r w'.heap.size w' a' w') : wpUx P X ops Q (.h i r) w.heap.size w a w := by
  obtain ⟨cs, h1, h2⟩ := new_sliceR (ty := ty) (w := w) (P := P) T hy hel hsl hye hs hlen h0 h
  refine sx_hole hi' rfl fun K hK => wpList_plain rfl fun K' hK' => ?_
  unfold Oper.wp
  rw [h1]
  exact hK' _ _ (atK (hK _ _ (belowX (balloc _ _)) (h2 _ _ _ (T.put (by simpa [Nat.blt_eq] using hd) _) (F.alloc cs e))))
theorem sx_appendC [S : Seat P tab fl] {d : Nat} {s x : Operand} {t e : TypeId} {v : Value} {k : Nat} {xs : List Value} {ad : Option Addr} {k2 cp : Nat} {news : List Value} {sz : Nat} {y y2 : Ty} (hi' : nthO ops i = some ⟨some d, .call { callee := .builtin .append, args := #[s, x], argTypes := #[t, t] }, ty, pos, af, none⟩) (T : Tm a n ts) (F : MemE (SlA E1 e sz v k xs) c m bs w)
    (hX : ∀ q, blk v = some q → q ∈ X)
    (hnews : Cells w ad news) (hlen : news.length = k2 * sz) (hone : ∀ u ∈ news, u.oneCell' = true) (hs : ev ts s = some v := by exact rfl) (hx : ev ts x = some (.slice ad k2 cp) := by exact rfl) (hd : Nat.blt d n = true := by exact rfl)
    (hy : getY tab t = some y := by exact rfl) (hel : y.elem = (e, sz) := by exact rfl) (hy2 : getY tab e = some y2 := by exact rfl) (hz1 : y2.zero.length = sz := by exact rfl) (hsl : y.isSl = true := by exact rfl) (h0 : Nat.blt 0 sz = true := by exact rfl) (hb0 : Nat.blt 0 y2.bytes = true := by exact rfl)
    (hbytes : (k + k2) * y2.bytes ≤ 140737488355328)
    (h : ∀ ad' cap' X' a' w', (∀ q, blk (.slice ad' (k + k2) cap') = some q → q ∈ X') → Tm a' n ((d, .slice ad' (k + k2) cap') :: ts) → MemE (SlA E1 e sz (.slice ad' (k + k2) cap') (k + k2) (xs ++ news)) c m bs w' → wpUx P X' ops Q r w'.heap.size w' a' w') :
    wpUx P X ops Q (.h i r) w.heap.size w a w := by
  have h0' : 0 < sz := by simpa [Nat.blt_eq] using h0
  have hb0' : 0 < y2.bytes := by simpa [Nat.blt_eq] using hb0
  obtain ⟨de, ii, z, hde, hinfo, hz, _, _, _, _, _, hel', _, hsl', _⟩ := tyOf_spec (S.ty _ _ hy)
  obtain ⟨de2, i2, z2, hde2, hinfo2, hz2, _, hsz2, hby2, hzz2, _⟩ := tyOf_spec (S.ty _ _ hy2)
  rw [hel] at hel'
  rw [hsl] at hsl'
  cases de with
  | slice el =>
    simp only at hel'
    cases hq : P.info? el with
    | none =>
      rw [hq] at hel'
      simp at hel'
      omega
    | some q =>
      rw [hq] at hel'
      simp only [Prod.mk.injEq] at hel'
      obtain ⟨rfl, hs1⟩ := hel'
      rw [hinfo2] at hq
      simp at hq
      subst hq
      have hzs : z2.cells.size = sz := by rw [← Array.length_toList, ← hzz2]; exact hz1
      refine sx_holeX hi' rfl fun K hK => wpList_plain rfl fun K' hK' => wp_append_Own w s x t rfl 0 e i2 z2 sz y2.bytes hde hinfo2 hz2 hs1.symm (by omega) hzs h0' v k xs (T.eval hs) F.ext.2.1 ad k2 cp news (T.eval hx) hlen hnews hone hbytes hb0' (Nat.zero_le _) ?_
      intro ad' cap' w' h1 h2 h3
      have hbx : BelowX X w.heap.size w w' := ⟨h2.os, h2.tape, h2.output, h2.size, fun q hq hqX => h2.block q hq fun hb => hqX (hX q hb.symm)⟩
      have hTm := T.put (d := d) (by simpa [Nat.blt_eq] using hd) (.slice ad' (k + k2) cap')
      rcases h3 with h3 | ⟨q, h3, h4⟩
      · exact hK' _ _ (atK (hK X _ _ (fun q hq => .inl hq) hbx (h ad' cap' X _ _ (fun q hq => hX q (h3.symm.trans hq)) hTm (F.grownA h2 h1 (.inl h3)))))
      · exact hK' _ _ (atK (hK (q :: X) _ _ (fun p hp => by
          rcases List.mem_cons.1 hp with rfl | hp
          · exact .inr h4
          · exact .inl hp) hbx (h ad' cap' (q :: X) _ _ (fun p hp => by
            rw [h3] at hp
            simp at hp
            subst hp
            exact List.mem_cons_self ..) hTm (F.grownA h2 h1 (.inr ⟨q, h3, h4⟩)))))
  | _ => simp at hsl'
end
end Sy
end Go.Proofs.YtohhjbfkgokopaaDoor
