/- Blocks that a call has made, of which whole numbers change and nothing else. Over any program. No condition. -/
import Derived.Test.YtohhjbfkgokopaaDoorSyC
namespace Go.Proofs.YtohhjbfkgokopaaDoor
open Go.RowKit
set_option linter.unusedVariables false
set_option linter.unusedSimpArgs false
namespace Sy
/-- the same, or two whole numbers of one kind -/
def LikeV (x y : Value) : Prop := x = y ∨ ∃ k a b, x = .int k a ∧ y = .int k b
theorem LikeV.int {k : IntKind} {a : Int} {y : Value} (h : LikeV (.int k a) y) : ∃ b, y = .int k b := by
  rcases h with h | ⟨k', a', b, h1, h2⟩
  · exact ⟨a, h.symm⟩
  · cases h1
    exact ⟨b, h2⟩
theorem LikeV.slice {a : Option Addr} {n cap : Nat} {y : Value} (h : LikeV (.slice a n cap) y) : y = .slice a n cap := by
  rcases h with h | ⟨k', a', b, h1, h2⟩
  · exact h.symm
  · cases h1
def LikeO (o1 o2 : Option Obj) : Prop := ∀ (cs : Array Value) (t : TypeId), o1 = some (.cells cs t (0, 0)) → ∃ cs' : Array Value, o2 = some (.cells cs' t (0, 0)) ∧ ∀ (i : Nat) (v : Value), cs[i]? = some v → ∃ v', cs'[i]? = some v' ∧ LikeV v v'
theorem LikeO.refl (o : Option Obj) : LikeO o o := fun cs t h => ⟨cs, h, fun i v hv => ⟨v, hv, .inl rfl⟩⟩
/-- the blocks from lo up to hi are as they were in w1, but for whole numbers -/
def LikeE (lo hi : Nat) (w1 : World) : Ext where
  S k := lo ≤ k ∧ k < hi
  R w := (∀ k, lo ≤ k → k < hi → k < w.heap.size) ∧ ∀ k, lo ≤ k → k < hi → LikeO w1.heap[k]? w.heap[k]?
  stab w w' h hr := by
    refine ⟨fun k h1 h2 => ?_, fun k h1 h2 => by rw [h k ⟨h1, h2⟩]; exact hr.2 k h1 h2⟩
    have e := h k ⟨h1, h2⟩
    have hlt := hr.1 k h1 h2
    have : w'.heap[k]? ≠ none := by rw [e]; simp; omega
    simpa using this
  dom w k hr hk := hr.1 k hk.1 hk.2
/-- the blocks from lo up to hi are as they were in w1 -/
def FrozE (lo hi : Nat) (w1 : World) : Ext where
  S k := lo ≤ k ∧ k < hi
  R w := (∀ k, lo ≤ k → k < hi → k < w.heap.size) ∧ ∀ k, lo ≤ k → k < hi → w.heap[k]? = w1.heap[k]?
  stab w w' h hr := by
    refine ⟨fun k h1 h2 => ?_, fun k h1 h2 => by rw [h k ⟨h1, h2⟩]; exact hr.2 k h1 h2⟩
    have e := h k ⟨h1, h2⟩
    have hlt := hr.1 k h1 h2
    have : w'.heap[k]? ≠ none := by rw [e]; simp; omega
    simpa using this
  dom w k hr hk := hr.1 k hk.1 hk.2
section
variable {E : Ext} {c : Cx} {m w : World} {bs : List Blk}
/-- what a call has made stands -/
theorem MemE.froz (F : MemE E c m bs w) {w' : World} (hb : Below w.heap.size w w') : MemE (FrozE w.heap.size w'.heap.size w') c m bs w' := by
  have F' := F.below hb
  refine ⟨F'.kept, F'.sub0, F'.sub, F'.fresh, F'.own, F'.nodup, ⟨fun k _ h => h, fun k _ _ => rfl⟩, fun k hk => ⟨.inl (Nat.le_trans F.size hk.1), fun hm => ?_, fun i s => cell_none F.sub hk.1 i s⟩⟩
  obtain ⟨b, hbm, he⟩ := List.mem_map.1 hm
  have := F.lt hbm
  have := hk.1
  omega
theorem MemE.like {lo hi : Nat} {w1 : World} (F : MemE (FrozE lo hi w1) c m bs w) : MemE (LikeE lo hi w1) c m bs w :=
  ⟨F.kept, F.sub0, F.sub, F.fresh, F.own, F.nodup, ⟨F.ext.1, fun k h1 h2 => by rw [F.ext.2 k h1 h2]; exact LikeO.refl _⟩, F.loose⟩
end
theorem overL_one : ∀ (cs : List Value) (o : Nat) (v : Value), o < cs.length → overL cs o [v] = cs.set o v
  | c :: r, 0, v, h => by cases r <;> rfl
  | c :: r, o + 1, v, h => by simp only [overL, List.set_cons_succ]; rw [overL_one r o v (by simpa using h)]
section
variable {P : Program} {tab : List (Nat × Ty)} {fl : List Nat} {a : Act} {n : Nat} {ts : List (Nat × Value)} {w : World} {ty : TypeId} {pos : String} {af : Array Edge}
  {ops : Array Oper} {Q : Exit → Act → World → Prop} {rest : List Oper} {c : Cx} {m : World} {bs bs' : List Blk}
variable {lo hi : Nat} {w1 : World} {g o : Nat} {cs : Array Value} {et : TypeId}
theorem likeCell {E : Ext} (F : MemE (LikeE lo hi w1) c m bs w) (h1 : lo ≤ g) (h2 : g < hi) (hc : w1.heap[g]? = some (.cells cs et (0, 0))) {v : Value} (hv : cs[o]? = some v) : ∃ v', w.cell? ⟨g, o, none⟩ = some v' ∧ LikeV v v' := by
  obtain ⟨cs', e1, e2⟩ := F.ext.2 g h1 h2 cs et hc
  obtain ⟨v', e3, e4⟩ := e2 o v hv
  exact ⟨v', by simp [World.cell?, e1, e3], e4⟩
theorem st_loadLI [S : Seat P tab fl] {d : Nat} {t : TypeId} {x : Operand} {y : Ty} {k : IntKind} {v : Int} (T : Tm a n ts) (F : MemE (LikeE lo hi w1) c m bs w) (h1 : lo ≤ g) (h2 : g < hi) (hc : w1.heap[g]? = some (.cells cs et (0, 0))) (hv : cs[o]? = some (.int k v)) (hx : ev ts x = some (.pointer (some ⟨g, o, none⟩)) := by exact rfl)
    (hd : Nat.blt d n = true := by exact rfl) (hy : getY tab t = some y := by exact rfl) (ha : y.agg = false := by exact rfl)
    (h : ∀ (u : Int) a', Tm a' n ((d, .int k u) :: ts) → wpList P ops Q rest a' w) : wpList P ops Q (⟨some d, .load t x, ty, pos, af, none⟩ :: rest) a w := by
  obtain ⟨v', e1, e2⟩ := likeCell (E := E0) F h1 h2 hc hv
  obtain ⟨b, rfl⟩ := e2.int
  exact st_val (runs_loadOne T hx hy ha e1) T hd (h b)
theorem st_loadLS [S : Seat P tab fl] {d : Nat} {t : TypeId} {x : Operand} {y : Ty} {s : Option Addr} {len cap : Nat} (T : Tm a n ts) (F : MemE (LikeE lo hi w1) c m bs w) (h1 : lo ≤ g) (h2 : g < hi) (hc : w1.heap[g]? = some (.cells cs et (0, 0))) (hv : cs[o]? = some (.slice s len cap)) (hx : ev ts x = some (.pointer (some ⟨g, o, none⟩)) := by exact rfl)
    (hd : Nat.blt d n = true := by exact rfl) (hy : getY tab t = some y := by exact rfl) (ha : y.agg = false := by exact rfl)
    (h : ∀ a', Tm a' n ((d, .slice s len cap) :: ts) → wpList P ops Q rest a' w) : wpList P ops Q (⟨some d, .load t x, ty, pos, af, none⟩ :: rest) a w := by
  obtain ⟨v', e1, e2⟩ := likeCell (E := E0) F h1 h2 hc hv
  have := e2.slice
  subst this
  exact st_val (runs_loadOne T hx hy ha e1) T hd h
theorem st_storeL [S : Seat P tab fl] {t : TypeId} {x z : Operand} {y : Ty} {k : IntKind} {v u : Int} (T : Tm a n ts) (F : MemE (LikeE lo hi w1) c m bs w) (h1 : lo ≤ g) (h2 : g < hi) (hc : w1.heap[g]? = some (.cells cs et (0, 0))) (hv : cs[o]? = some (.int k v)) (hx : ev ts x = some (.pointer (some ⟨g, o, none⟩)) := by exact rfl)
    (hz : ev ts z = some (.int k u) := by exact rfl) (hy : getY tab t = some y := by exact rfl) (hl : y.size = 1 := by exact rfl)
    (h : ∀ a' w', Tm a' n ts → MemE (LikeE lo hi w1) c m bs w' → wpList P ops Q rest a' w') : wpList P ops Q (⟨none, .store t x z, ty, pos, af, none⟩ :: rest) a w := by
  obtain ⟨cs', e1, e2⟩ := F.ext.2 g h1 h2 cs et hc
  obtain ⟨v', e3, e4⟩ := e2 o _ hv
  have hlt : o < cs'.size := (Array.getElem?_eq_some_iff.1 e3).1
  have hhg : w.heap[g]? = some (.cells cs'.toList.toArray et (0, 0)) := by simpa using e1
  have hth := there_of hhg (o := o) (n := 1) (by simp; omega)
  have hst := run_storeCells_cells (P := P) g o [.int k u] 0 w (fun j hj => by simpa using (hth j hj).1) (fun j hj => by simpa using (hth j hj).2) (fun u hu => by simp at hu; subst hu; rfl)
  have hsz := run_sizeOf_y (S.ty _ _ hy) w
  rw [hl] at hsz
  obtain ⟨r1, r2, r3, r4⟩ := setCells_rest (b := g) [.int k u] o w
  have hov := setCells_over [.int k u] o cs'.toList w (by simp; omega) hhg
  have hoth : ∀ j, j ≠ g → (w.setCells g o [.int k u]).heap[j]? = w.heap[j]? := fun j hj => setCells_heap_other _ o w j hj
  have hloose := F.loose g ⟨h1, h2⟩
  have F2 : MemE (LikeE lo hi w1) c m bs (w.setCells g o [.int k u]) := by
    refine ⟨⟨r1.trans F.kept.os, r2.trans F.kept.tape, r3.trans F.kept.output, by rw [r4]; exact F.kept.size, fun j hj hnx => ?_⟩, F.sub0, fun p v e => ?_, F.fresh, fun b hb => ?_, F.nodup, ⟨fun j hj hj' => by rw [r4]; exact F.ext.1 j hj hj', fun j hj hj' => ?_⟩, F.loose⟩
    · rw [hoth j (fun e => by
        subst e
        rcases hloose.1 with hg | hg
        · omega
        · exact hnx hg)]
      exact F.kept.block j hj hnx
    · have hp : p.block ≠ g := fun e' => by
        have := hloose.2.2 p.off p.spot
        obtain ⟨pb, po, ps⟩ := p
        subst e'
        rw [this] at e
        cases e
      rw [World.cell?_of_block (hoth _ hp)]
      exact F.sub p v e
    · have hne : b.adr ≠ g := fun e => hloose.2.1 (List.mem_map.2 ⟨b, hb, e⟩)
      have h := F.own b hb
      exact ⟨h.1, by rw [hoth _ hne]; exact h.2.1, h.2.2⟩
    · by_cases hjg : j = g
      · subst hjg
        intro ds dt hd
        obtain ⟨ds', q1, q2⟩ := F.ext.2 j h1 h2 ds dt hd
        rw [e1] at q1
        simp at q1
        obtain ⟨rfl, rfl⟩ := q1
        rw [hc] at hd
        simp at hd
        obtain ⟨rfl, -⟩ := hd
        refine ⟨_, hov, fun i x0 hx0 => ?_⟩
        obtain ⟨x', q3, q4⟩ := q2 i x0 hx0
        rw [overL_one _ _ _ (by simpa using hlt)]
        by_cases hio : i = o
        · subst hio
          rw [hv] at hx0
          simp at hx0
          subst hx0
          exact ⟨.int k u, by simp [hlt], .inr ⟨k, v, u, rfl, rfl⟩⟩
        · refine ⟨x', ?_, q4⟩
          rw [← q3]
          simp [List.getElem?_set_ne (fun e => hio e.symm)]
      · rw [hoth j hjg]
        exact F.ext.2 j hj hj'
  refine wpList_plain rfl fun K hK => ?_
  unfold Oper.wp
  have hrun : (execOp a.eval ⟨none, .store t x z, ty, pos, af, none⟩).run P w = .ok .skip (w.setCells g o [.int k u]) := by
    simp only [Nat.add_zero] at hst
    simp [execOp, T.eval hx, T.eval hz, Instr.storeAt, Instr.sureAddr, storeVar, Value.cells, hsz, hst]
  rw [hrun]
  exact hK _ _ (h _ _ (T.skip _) F2)
end
end Sy
end Go.Proofs.YtohhjbfkgokopaaDoor
